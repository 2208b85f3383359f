/-
  What functions of the program compute, as plain Lean functions (m_..), and proofs that they compute it (c_..). Printed by a program of the author; no conditions.
-/
import Derived.Test.YtonkjfnjadofpaaGreatLearnNamesBFloat
import Derived.Test.YtonkjfnjadofpaaGreatProg
import Derived.Test.YtonkjfnjadofpaaGreatLearnNamesBThree
import Derived.Test.YtonkjfnjadofpaaGreatLearnNamesF3
set_option linter.unusedVariables false
set_option maxRecDepth 100000
set_option maxHeartbeats 2000000
namespace Go.Proofs.YtonkjfnjadofpaaGreat
open Go Go.RowKit

theorem el3_32V2C33XSSSSXOOOOXOOXR : ElemOk Tryz.prog 3 1 8 := ⟨Tryz.t3, _, rfl, rfl, rfl, rfl, rfl⟩
def m_learn_each_v2c33xssssxooooxooxr_L3 (N : Nat) (ab : ByteArray) (ac : List ByteArray) (ad : List (List ByteArray)) (ae : List (List Int)) (af : List (List ((Bool × (List Int)) × (List Int)))) (ag : ByteArray) (ah : List ByteArray) (ai : List (List ByteArray)) (aj : List (List Int)) (ak : List (List ((Bool × (List Int)) × (List Int)))) (al : Bool) (am : List Int) (an : List Int) (ap : List (List ((Bool × (List Int)) × (List Int)))) (kk_L2 : ((List Int) → ByteArray → (List ByteArray) → (List (List ByteArray)) → (List (List Int)) → (List (List ((Bool × (List Int)) × (List Int)))) → ByteArray → (List ByteArray) → (List (List ByteArray)) → (List (List Int)) → (List (List ((Bool × (List Int)) × (List Int)))) → Bool → (List Int) → (List Int) → (List (List ((Bool × (List Int)) × (List Int)))) → Option (List (List ((Bool × (List Int)) × (List Int)))))) (aq : Int × (List Int)) : List Int → Nat → (List Int) → Option (List (List ((Bool × (List Int)) × (List Int))))
  | [], ao, aa => (m_learn_Step_1_v0l_v1sssss_v4sr N aa (ab, ac, ad, ae, af) (ag, ah, ai, aj, ak) ((al, am), an) ap).bind fun au => kk_L2 aa ab ac ad ae af ag ah ai aj ak al am an au
  | ar :: av, ao, aa => (at? aq.2 (ao : Int)).bind fun aw => (at? aa ar).bind fun ay => (some (aa.set (Int.toNat ar) aw)).bind fun ax => (m_learn_each_v2c33xssssxooooxooxr_L3 N ab ac ad ae af ag ah ai aj ak al am an ap kk_L2 aq av) (ao + 1) ax
termination_by structural x => x
def m_learn_each_v2c33xssssxooooxooxr_L2 (N : Nat) (ab : List Int) : List (Int × (List Int)) → (List Int) → ByteArray → (List ByteArray) → (List (List ByteArray)) → (List (List Int)) → (List (List ((Bool × (List Int)) × (List Int)))) → ByteArray → (List ByteArray) → (List (List ByteArray)) → (List (List Int)) → (List (List ((Bool × (List Int)) × (List Int)))) → Bool → (List Int) → (List Int) → (List (List ((Bool × (List Int)) × (List Int)))) → Option (List (List ((Bool × (List Int)) × (List Int))))
  | [], ac, ad, ae, af, ag, ah, ai, aj, ak, al, am, an, ao, ap, aa => some aa
  | aq :: ar, ac, ad, ae, af, ag, ah, ai, aj, ak, al, am, an, ao, ap, aa => m_learn_each_v2c33xssssxooooxooxr_L3 N ad ae af ag ah ai aj ak al am an ao ap aa (m_learn_each_v2c33xssssxooooxooxr_L2 N ab ar) aq ab 0 ac
termination_by structural x => x
def m_learn_each_v2c33xssssxooooxooxr_J1 (aa : Nat) (kk_L1 : (Nat → (List Int) → (List Int) → Option (List (List ((Bool × (List Int)) × (List Int)))))) (ab : List Int) (ac : List Int) : Option (List (List ((Bool × (List Int)) × (List Int)))) :=
  kk_L1 (aa + 1) ab ac
def m_learn_each_v2c33xssssxooooxooxr_L1 (N : Nat) (ag : (ByteArray × (List ByteArray) × (List (List ByteArray)) × (List (List Int)) × (List (List ((Bool × (List Int)) × (List Int)))))) (ah : (List Int)) (aa : (ByteArray × (List ByteArray) × (List (List ByteArray)) × (List (List Int)) × (List (List ((Bool × (List Int)) × (List Int)))))) (ab : (ByteArray × (List ByteArray) × (List (List ByteArray)) × (List (List Int)) × (List (List ((Bool × (List Int)) × (List Int)))))) (af : ((Bool × (List Int)) × (List Int))) (ai : (List (List ((Bool × (List Int)) × (List Int))))) : List Int → Nat → (List Int) → (List Int) → Option (List (List ((Bool × (List Int)) × (List Int))))
  | [], ac, ad, ae => (m_slices_Clone_int_int ah).bind fun al => (m_radix_All_int N ae).bind fun am => m_learn_each_v2c33xssssxooooxooxr_L2 N ad am al aa.1 aa.2.1 aa.2.2.1 aa.2.2.2.1 aa.2.2.2.2 ab.1 ab.2.1 ab.2.2.1 ab.2.2.2.1 ab.2.2.2.2 af.1.1 af.1.2 af.2 ai
  | an :: ak, ac, ad, ae => if (decide (an < 0)) = true then (chk ((ad.length + [(ac : Int)].length) * 8 ≤ 140737488355328 ∧ ad.length + [(ac : Int)].length ≤ maxLen) ((at? ag.2.2.1 (ac : Int)).bind fun aj => chk ((ae.length + [(aj.length : Int)].length) * 8 ≤ 140737488355328 ∧ ae.length + [(aj.length : Int)].length ≤ maxLen) (m_learn_each_v2c33xssssxooooxooxr_J1 ac (m_learn_each_v2c33xssssxooooxooxr_L1 N ag ah aa ab af ai ak) (ad ++ [(ac : Int)]) (ae ++ [(aj.length : Int)])))) else (m_learn_each_v2c33xssssxooooxooxr_J1 ac (m_learn_each_v2c33xssssxooooxooxr_L1 N ag ah aa ab af ai ak) ad ae)
termination_by structural x => x
def m_learn_each_v2c33xssssxooooxooxr (N : Nat) (ab : (ByteArray × (List ByteArray) × (List (List ByteArray)) × (List (List Int)) × (List (List ((Bool × (List Int)) × (List Int)))))) (aa : (List Int)) (ac : (ByteArray × (List ByteArray) × (List (List ByteArray)) × (List (List Int)) × (List (List ((Bool × (List Int)) × (List Int)))))) (ad : (ByteArray × (List ByteArray) × (List (List ByteArray)) × (List (List Int)) × (List (List ((Bool × (List Int)) × (List Int)))))) (ae : ((Bool × (List Int)) × (List Int))) (af : (List (List ((Bool × (List Int)) × (List Int))))) : Option (List (List ((Bool × (List Int)) × (List Int)))) :=
  m_learn_each_v2c33xssssxooooxooxr_L1 N ab aa ac ad ae af aa 0 ([] : List Int) ([] : List Int)
theorem c_learn_each_v2c33xssssxooooxooxr (N : Nat) (col : Col) (w0 : World) (qc3 : Nat) (qc4 : Nat) (fd : Nat) (fe : Nat) (ff : Nat) (fg : Nat) (qc5 : Nat) (fh : Nat) (fi : Nat) (qc6 : Nat) (ae : Nat) (hd : dstB [qc6, ae] = true) (hqqc3 : qc3 ≠ 0 ∧ pS [qc6, ae] qc3 = false) (hqqc4 : qc4 ≠ 0 ∧ pS [qc6, ae] qc4 = false) (ft : fd ≠ 0 ∧ pS [qc6, ae] fd = false) (fu : fe ≠ 0 ∧ pS [qc6, ae] fe = false) (fv : ff ≠ 0 ∧ pS [qc6, ae] ff = false) (fw : fg ≠ 0 ∧ pS [qc6, ae] fg = false) (hqqc5 : qc5 ≠ 0 ∧ pS [qc6, ae] qc5 = false) (fx : fh ≠ 0 ∧ pS [qc6, ae] fh = false) (fy : fi ≠ 0 ∧ pS [qc6, ae] fi = false) (dh : Option Addr) (di : Nat) (b2 : Option Addr) (ch : Nat) (dj : Option Addr) (dk : Nat) (dl : Option Addr) (dm : Nat) (aa : (ByteArray × (List ByteArray) × (List (List ByteArray)) × (List (List Int)) × (List (List ((Bool × (List Int)) × (List Int)))))) (a1 : Option Addr) (cap1 : Nat) (ao : (List Int)) (g3 : Nat) (ac : (ByteArray × (List ByteArray) × (List (List ByteArray)) × (List (List Int)) × (List (List ((Bool × (List Int)) × (List Int)))))) (du : Option Addr) (dv : Nat) (dw : Option Addr) (dx : Nat) (dy : Option Addr) (dz : Nat) (d0 : Option Addr) (d1 : Nat) (g4 : Nat) (ad : (ByteArray × (List ByteArray) × (List (List ByteArray)) × (List (List Int)) × (List (List ((Bool × (List Int)) × (List Int)))))) (d2 : Option Addr) (d3 : Nat) (d4 : Option Addr) (d5 : Nat) (d6 : Option Addr) (d7 : Nat) (d8 : Option Addr) (d9 : Nat) (g5 : Nat) (ba : ((Bool × (List Int)) × (List Int))) (ea : Option Addr) (eb : Nat) (ec : Option Addr) (ed : Nat) (g6 : Nat) (cm : (List (List ((Bool × (List Int)) × (List Int))))) (ee : Option Addr) (ef : Nat) (b3 : Sl Rep.str col w0 dh di aa.2.1) (be : Sl (Rep.slice Rep.str) col w0 b2 ch aa.2.2.1) (b4 : Sl (Rep.slice (Rep.int .i64)) col w0 dj dk aa.2.2.2.1) (b5 : Sl (Rep.slice (Rep.pair (Rep.pair Rep.bool (Rep.slice (Rep.int .u32))) (Rep.slice (Rep.int .u32)))) col w0 dl dm aa.2.2.2.2) (h1 : Sl (Rep.int .i64) col w0 a1 cap1 ao) (bp : Sl Rep.str col w0 du dv ac.2.1) (bq : Sl (Rep.slice Rep.str) col w0 dw dx ac.2.2.1) (br : Sl (Rep.slice (Rep.int .i64)) col w0 dy dz ac.2.2.2.1) (bs : Sl (Rep.slice (Rep.pair (Rep.pair Rep.bool (Rep.slice (Rep.int .u32))) (Rep.slice (Rep.int .u32)))) col w0 d0 d1 ac.2.2.2.2) (hb3 : Box 28 qc3 col w0 g3 #[(.string ac.1), (.slice du ac.2.1.length dv), (.slice dw ac.2.2.1.length dx), (.slice dy ac.2.2.2.1.length dz), (.slice d0 ac.2.2.2.2.length d1)]) (bt : Own Rep.str 9 fd col w0 d2 d3 ad.2.1) (bu : Own (Rep.row 9 Rep.str) 23 fe col w0 d4 d5 ad.2.2.1) (bv : Own (Rep.row 3 (Rep.int .i64)) 33 ff col w0 d6 d7 ad.2.2.2.1) (bw : Own (Rep.row 40 (Rep.pair (Rep.pair Rep.bool (Rep.row 114 (Rep.int .u32))) (Rep.row 114 (Rep.int .u32)))) 51 fg col w0 d8 d9 ad.2.2.2.2) (hb4 : Box 28 qc4 col w0 g4 #[(.string ad.1), (.slice d2 ad.2.1.length d3), (.slice d4 ad.2.2.1.length d5), (.slice d6 ad.2.2.2.1.length d7), (.slice d8 ad.2.2.2.2.length d9)]) (bx : Own (Rep.int .u32) 114 fh col w0 ea eb ba.1.2) (bz : Own (Rep.int .u32) 114 fi col w0 ec ed ba.2) (hb5 : Box 40 qc5 col w0 g5 #[(.bool ba.1.1), (.slice ea ba.1.2.length eb), (.slice ec ba.2.length ed)]) (b0 : Own (Rep.row 40 (Rep.pair (Rep.pair Rep.bool (Rep.slice (Rep.int .u32))) (Rep.slice (Rep.int .u32)))) 51 ae col w0 ee ef cm) (hb6 : Box 26 qc6 col w0 g6 #[(.slice ee cm.length ef)]) (r : (List (List ((Bool × (List Int)) × (List Int))))) (hm : m_learn_each_v2c33xssssxooooxooxr N aa ao ac ad ba cm = some r) :
    Calls Tryz.prog 32 #[(.agg #[(.string aa.1), (.slice dh aa.2.1.length di), (.slice b2 aa.2.2.1.length ch), (.slice dj aa.2.2.2.1.length dk), (.slice dl aa.2.2.2.2.length dm)]), (.slice a1 ao.length cap1), (.func (.func 33) #[] #[(.pointer (some ⟨g3, 0, none⟩)), (.pointer (some ⟨g4, 0, none⟩)), (.pointer (some ⟨g5, 0, none⟩)), (.pointer (some ⟨g6, 0, none⟩))])] w0 (fun e w' => ∃ (col' : Col) (oa1 : Option Addr) (oc2 : Nat), e = .returned (.tuple #[]) ∧ KeepP (pS [qc6, ae]) col w0 col' w' ∧ Own (Rep.row 40 (Rep.pair (Rep.pair Rep.bool (Rep.slice (Rep.int .u32))) (Rep.slice (Rep.int .u32)))) 51 ae col' w' oa1 oc2 r ∧ Box 26 qc6 col' w' g6 #[(.slice oa1 r.length oc2)]) := by
 refine calls_ofM0  (m := 62) (args := [(.agg #[(.string aa.1), (.slice dh aa.2.1.length di), (.slice b2 aa.2.2.1.length ch), (.slice dj aa.2.2.2.1.length dk), (.slice dl aa.2.2.2.2.length dm)]), (.slice a1 ao.length cap1), (.func (.func 33) #[] #[(.pointer (some ⟨g3, 0, none⟩)), (.pointer (some ⟨g4, 0, none⟩)), (.pointer (some ⟨g5, 0, none⟩)), (.pointer (some ⟨g6, 0, none⟩))])]) Tryz.func32 rfl rfl rfl rfl ?_
 rw [m_learn_each_v2c33xssssxooooxooxr.eq_1] at hm
 have hst := St.startL (l := [qc6, ae]) rfl col w0
 replace hb3 := hb3.startB hqqc3.1 hqqc3.2
 replace hb4 := hb4.startB hqqc4.1 hqqc4.2
 replace bt := bt.startB ft.1 ft.2
 replace bu := bu.startB fu.1 fu.2
 replace bv := bv.startB fv.1 fv.2
 replace bw := bw.startB fw.1 fw.2
 replace hb5 := hb5.startB hqqc5.1 hqqc5.2
 replace bx := bx.startB fx.1 fx.2
 replace bz := bz.startB fy.1 fy.2
 replace b3 := b3.keep (Stay.startL [qc6, ae] col w0)
 replace be := be.keep (Stay.startL [qc6, ae] col w0)
 replace b4 := b4.keep (Stay.startL [qc6, ae] col w0)
 replace b5 := b5.keep (Stay.startL [qc6, ae] col w0)
 replace h1 := h1.keep (Stay.startL [qc6, ae] col w0)
 replace bp := bp.keep (Stay.startL [qc6, ae] col w0)
 replace bq := bq.keep (Stay.startL [qc6, ae] col w0)
 replace br := br.keep (Stay.startL [qc6, ae] col w0)
 replace bs := bs.keep (Stay.startL [qc6, ae] col w0)
 replace hb6 := hb6.startL (dst_nz hd 0 rfl) (dst_ix hd 0 rfl)
 replace b0 := b0.startL (dst_nz hd 1 rfl) (dst_ix hd 1 rfl)
 have hmk : Marks (colL [qc6, ae] col) w0 [] := .nil
 refine wS <| wR ?_
 refine l_box (col := (colL [qc6, ae] col)) (v := (.agg #[(.string aa.1), (.slice dh aa.2.1.length di), (.slice b2 aa.2.2.1.length ch), (.slice dj aa.2.2.2.1.length dk), (.slice dl aa.2.2.2.2.length dm)])) 1 rfl rfl ?_
 intro ek gd fz a6 b1
 replace b1 : Box 28 1 fz gd ek #[(.string aa.1), (.slice dh aa.2.1.length di), (.slice b2 aa.2.2.1.length ch), (.slice dj aa.2.2.2.1.length dk), (.slice dl aa.2.2.2.2.length dm)] := b1
 refine l_box (col := fz) (v := (.func (.func 33) #[] #[(.pointer (some ⟨g3, 0, none⟩)), (.pointer (some ⟨g4, 0, none⟩)), (.pointer (some ⟨g5, 0, none⟩)), (.pointer (some ⟨g6, 0, none⟩))])) 2 rfl rfl ?_
 intro dr ge f0 a5 af
 replace af : Box 78 2 f0 ge dr #[(.func (.func 33) #[] #[(.pointer (some ⟨g3, 0, none⟩)), (.pointer (some ⟨g4, 0, none⟩)), (.pointer (some ⟨g5, 0, none⟩)), (.pointer (some ⟨g6, 0, none⟩))])] := af
 refine lN <| wS <| wR ?_
 refine l_alloc (col := f0) (v := (.slice none (([] : List Int).length) 0)) 3 rfl Tryz.zeroValue33 ?_
 intro dn gf f1 a2 ag
 replace ag : Box 33 3 f1 gf dn #[(.slice none (([] : List Int).length) 0)] := ag
 refine lA (.slice none (([] : List Int).length) 0) <| lN <| wS <| wS <| wR <| lM (.slice a1 ao.length cap1) <| lV (.int .i64 (ao.length : Int)) (r_len Tryz.underlying33 rfl) <| lM (.int .i64 0) <| lN <| wB ?_
 replace b3 := ((b3.gr a6).gr a5).gr a2
 replace be := ((be.gr a6).gr a5).gr a2
 replace b4 := ((b4.gr a6).gr a5).gr a2
 replace b5 := ((b5.gr a6).gr a5).gr a2
 replace h1 := ((h1.gr a6).gr a5).gr a2
 replace bp := ((bp.gr a6).gr a5).gr a2
 replace bq := ((bq.gr a6).gr a5).gr a2
 replace br := ((br.gr a6).gr a5).gr a2
 replace bs := ((bs.gr a6).gr a5).gr a2
 replace bt := ((bt.gr a6).gr a5).gr a2
 replace bu := ((bu.gr a6).gr a5).gr a2
 replace bv := ((bv.gr a6).gr a5).gr a2
 replace bw := ((bw.gr a6).gr a5).gr a2
 replace bx := ((bx.gr a6).gr a5).gr a2
 replace bz := ((bz.gr a6).gr a5).gr a2
 replace b0 := ((b0.gr a6).gr a5).gr a2
 replace hb3 := ((hb3.gr a6).gr a5).gr a2
 replace hb4 := ((hb4.gr a6).gr a5).gr a2
 replace hb5 := ((hb5.gr a6).gr a5).gr a2
 replace hb6 := ((hb6.gr a6).gr a5).gr a2
 replace hmk := ((hmk.gr a6).gr a5).gr a2
 replace hst := ((hst.grow a6).grow a5).grow a2
 replace b1 := (b1.gr a5).gr a2
 replace af := af.gr a2
 refine wloop (fun n f ak => ∃ (ah : Col) (ai : Nat) (b6 : Option Addr) (ci : Nat) (al : List Int) (eg : Option Addr) (eh : Nat) (cj : List Int) (ep : List Int), n = ep.length ∧ ao.drop ai = ep ∧ m_learn_each_v2c33xssssxooooxooxr_L1 N aa ao ac ad ba cm ep ai al cj = some r ∧ St w0 (colL [qc6, ae] col) ah ak ∧ Sl (Rep.int .i64) ah ak a1 cap1 ao ∧ Sl Rep.str ah ak dh di aa.2.1 ∧ Sl (Rep.slice Rep.str) ah ak b2 ch aa.2.2.1 ∧ Sl (Rep.slice (Rep.int .i64)) ah ak dj dk aa.2.2.2.1 ∧ Sl (Rep.slice (Rep.pair (Rep.pair Rep.bool (Rep.slice (Rep.int .u32))) (Rep.slice (Rep.int .u32)))) ah ak dl dm aa.2.2.2.2 ∧ Box 28 1 ah ak ek #[(.string aa.1), (.slice dh aa.2.1.length di), (.slice b2 aa.2.2.1.length ch), (.slice dj aa.2.2.2.1.length dk), (.slice dl aa.2.2.2.2.length dm)] ∧ Sl Rep.str ah ak du dv ac.2.1 ∧ Sl (Rep.slice Rep.str) ah ak dw dx ac.2.2.1 ∧ Sl (Rep.slice (Rep.int .i64)) ah ak dy dz ac.2.2.2.1 ∧ Sl (Rep.slice (Rep.pair (Rep.pair Rep.bool (Rep.slice (Rep.int .u32))) (Rep.slice (Rep.int .u32)))) ah ak d0 d1 ac.2.2.2.2 ∧ Box 28 999 ah ak g3 #[(.string ac.1), (.slice du ac.2.1.length dv), (.slice dw ac.2.2.1.length dx), (.slice dy ac.2.2.2.1.length dz), (.slice d0 ac.2.2.2.2.length d1)] ∧ Own Rep.str 9 999 ah ak d2 d3 ad.2.1 ∧ Own (Rep.row 9 Rep.str) 23 999 ah ak d4 d5 ad.2.2.1 ∧ Own (Rep.row 3 (Rep.int .i64)) 33 999 ah ak d6 d7 ad.2.2.2.1 ∧ Own (Rep.row 40 (Rep.pair (Rep.pair Rep.bool (Rep.row 114 (Rep.int .u32))) (Rep.row 114 (Rep.int .u32)))) 51 999 ah ak d8 d9 ad.2.2.2.2 ∧ Box 28 999 ah ak g4 #[(.string ad.1), (.slice d2 ad.2.1.length d3), (.slice d4 ad.2.2.1.length d5), (.slice d6 ad.2.2.2.1.length d7), (.slice d8 ad.2.2.2.2.length d9)] ∧ Own (Rep.int .u32) 114 999 ah ak ea eb ba.1.2 ∧ Own (Rep.int .u32) 114 999 ah ak ec ed ba.2 ∧ Box 40 999 ah ak g5 #[(.bool ba.1.1), (.slice ea ba.1.2.length eb), (.slice ec ba.2.length ed)] ∧ Own (Rep.row 40 (Rep.pair (Rep.pair Rep.bool (Rep.slice (Rep.int .u32))) (Rep.slice (Rep.int .u32)))) 51 441 ah ak ee ef cm ∧ Box 26 440 ah ak g6 #[(.slice ee cm.length ef)] ∧ Box 78 2 ah ak dr #[(.func (.func 33) #[] #[(.pointer (some ⟨g3, 0, none⟩)), (.pointer (some ⟨g4, 0, none⟩)), (.pointer (some ⟨g5, 0, none⟩)), (.pointer (some ⟨g6, 0, none⟩))])] ∧ Own (Rep.int .i64) 3 4 ah ak b6 ci al ∧ Box 33 3 ah ak dn #[(.slice b6 al.length ci)] ∧ Own (Rep.int .i64) 3 5 ah ak eg eh cj ∧ Marks ah ak [] ∧ f 17 = (.int .i64 (ai : Int)) ∧ f 1 = (.slice a1 ao.length cap1) ∧ f 15 = (.slice a1 ao.length cap1) ∧ f 16 = (.int .i64 (ao.length : Int)) ∧ f 3 = (.pointer (some ⟨ek, 0, none⟩)) ∧ f 5 = (.pointer (some ⟨dr, 0, none⟩)) ∧ f 6 = (.pointer (some ⟨dn, 0, none⟩)) ∧ f 7 = (.slice eg cj.length eh) ∧ f 1000000 = (enc [])) ao.length ⟨f1, 0, none, 0, ([] : List Int), none, 0, ([] : List Int), ao, rfl, rfl, hm, hst, h1, b3, be, b4, b5, b1, bp, bq, br, bs, hb3, bt, bu, bv, bw, hb4, bx, bz, hb5, b0, hb6, af, Own.nil, ag, Own.nil, hmk, rfl, rfl, rfl, rfl, rfl, rfl, rfl, rfl, rfl⟩ ?_
 clear hm; intro n f ak hI
 obtain ⟨ah, ai, b6, ci, al, eg, eh, cj, ep, hn, hl, hm, hst, h1, b3, be, b4, b5, b1, bp, bq, br, bs, hb3, bt, bu, bv, bw, hb4, bx, bz, hb5, b0, hb6, af, ap, ag, ds, hmk, hs17, hs1, hs15, hs16, hs3, hs5, hs6, hs7, hs1000000⟩ := hI
 subst hn
 refine .lD 17 hs17 <| .lD 1 hs1 <| .lD 15 hs15 <| .lD 16 hs16 <| .lD 3 hs3 <| .lD 5 hs5 <| .lD 6 hs6 <| .lD 7 hs7 <| .lD 1000000 hs1000000 ?_
 clear hs17 hs1 hs15 hs16 hs3 hs5 hs6 hs7 hs1000000
 cases ep with
 | nil =>
  have hk : ¬ ((ai : Int) < (ao.length : Int)) := by have := List.drop_eq_nil_iff.1 hl; omega
  have hkb := decide_eq_false hk
  rw [m_learn_each_v2c33xssssxooooxooxr_L1.eq_1] at hm
  refine wS <| wR <| lV (.bool (decide ((ai : Int) < (ao.length : Int)))) (r_lss (ai : Int) (ao.length : Int) rfl rfl) <| lN <| wS ?_
  refine wcondF (congrArg Value.bool hkb) ?_
  refine wexit (inB_hit ?_)
  refine wS <| wR <| lM (.slice a1 ao.length cap1) ?_
  obtain ⟨ez, gg, hm⟩ := bS hm
  refine lc rfl rfl (r_call1 Tryz.call78 rfl) (c_slices_Clone_int_int 6 ah _ a1 cap1 ao h1 ez gg) ?_
  rintro _ hr ⟨gh, fj, fk, rfl, bb, fl⟩
  refine ⟨_, rfl, ?_⟩
  refine l_alloc (col := gh) (v := (.slice none (([] : List Int).length) 0)) 7 rfl Tryz.zeroValue33 ?_
  intro el gi em a7 e0
  replace e0 : Box 33 7 em gi el #[(.slice none (([] : List Int).length) 0)] := e0
  refine l_bstore (v := (.slice fj ez.length fk)) e0 Tryz.sizeOf33 rfl rfl (by intro u hu; simp only [Value.cells, List.mem_cons, List.not_mem_nil, or_false] at hu; subst hu; rfl) rfl rfl ?_
  intro f2 a8 gj az
  clear e0
  replace az : Box 33 7 em f2 el #[(.slice fj ez.length fk)] := az
  refine lN <| wS <| wR <| lM (.slice eg cj.length eh) ?_
  obtain ⟨f3, gk, hm⟩ := bS hm
  replace ds := ((ds.gr bb).gr a7).kp a8
  refine lc rfl rfl (r_call1 Tryz.call85 rfl) (c_radix_All_int N 8 (frC 5 em) _ eg eh cj (ds.toSlF (Froz.int .i64)) f3 gk) ?_
  rintro _ hs ⟨gl, ht, rfl, a0, fm⟩
  refine ⟨_, rfl, ?_⟩
  replace fm := fm.thaw a0 ((Fz.refl (col := em)).froz 5)
  replace a0 := a0.thawR (col := em)
  generalize colR f2.heap.size em gl = gm at *
  refine lN <| wB ?_
  replace bp := (((bp.gr bb).gr a7).kp a8).gr a0
  replace bq := (((bq.gr bb).gr a7).kp a8).gr a0
  replace br := (((br.gr bb).gr a7).kp a8).gr a0
  replace bs := (((bs.gr bb).gr a7).kp a8).gr a0
  replace bt := (((bt.gr bb).gr a7).kp a8).gr a0
  replace bu := (((bu.gr bb).gr a7).kp a8).gr a0
  replace bv := (((bv.gr bb).gr a7).kp a8).gr a0
  replace bw := (((bw.gr bb).gr a7).kp a8).gr a0
  replace bx := (((bx.gr bb).gr a7).kp a8).gr a0
  replace bz := (((bz.gr bb).gr a7).kp a8).gr a0
  replace b0 := (((b0.gr bb).gr a7).kp a8).gr a0
  replace ap := (((ap.gr bb).gr a7).kp a8).gr a0
  replace af := (((af.gr bb).gr a7).kp a8).gr a0
  replace hb3 := (((hb3.gr bb).gr a7).kp a8).gr a0
  replace hb4 := (((hb4.gr bb).gr a7).kp a8).gr a0
  replace hb5 := (((hb5.gr bb).gr a7).kp a8).gr a0
  replace hb6 := (((hb6.gr bb).gr a7).kp a8).gr a0
  replace ag := (((ag.gr bb).gr a7).kp a8).gr a0
  replace hmk := (((hmk.gr bb).gr a7).kp a8).gr a0
  replace hst := (((hst.grow bb).grow a7).kp a8 gj).grow a0
  replace fl := ((fl.gr a7).kp a8).gr a0
  replace az := az.gr a0
  refine wrange (psl := [42, 43]) (arr := (fun (y : Int × (List Int)) (col : Col) (w : World) (args : List Value) => ∃ (a1 : Option Addr) (cap1 : Nat), args = [.int .i64 y.1, .slice a1 y.2.length cap1] ∧ Own (Rep.int .i64) 3 8 col w a1 cap1 y.2)) (ys := f3) (col := gm) 498 rfl fm rfl hmk rfl rfl (by rintro _ _ _ _ ⟨_, _, rfl, _⟩; rfl) (fun ys_ am av => ∃ (ei : Option Addr) (ej : Nat) (dt : List Int) (cn : ByteArray) (co : Option Addr) (cp : Nat) (b7 : List ByteArray) (cq : Option Addr) (cr : Nat) (b8 : List (List ByteArray)) (ct : Option Addr) (cu : Nat) (b9 : List (List Int)) (cv : Option Addr) (cw : Nat) (ca : List (List ((Bool × (List Int)) × (List Int)))) (cx : ByteArray) (cy : Option Addr) (cz : Nat) (cb : List ByteArray) (c0 : Option Addr) (c1 : Nat) (cc : List (List ByteArray)) (c3 : Option Addr) (c4 : Nat) (cd : List (List Int)) (c5 : Option Addr) (c6 : Nat) (ce : List (List ((Bool × (List Int)) × (List Int)))) (c7 : Bool) (c8 : Option Addr) (c9 : Nat) (cf : List Int) (da : Option Addr) (db : Nat) (cg : List Int) (dc : Option Addr) (dd : Nat) (ck : List (List ((Bool × (List Int)) × (List Int)))), m_learn_each_v2c33xssssxooooxooxr_L2 N al ys_ dt cn b7 b8 b9 ca cx cb cc cd ce c7 cf cg ck = some r ∧ St w0 (colL [qc6, ae] col) am av ∧ Own (Rep.int .i64) 3 6 am av ei ej dt ∧ Box 33 7 am av el #[(.slice ei dt.length ej)] ∧ Sl Rep.str am av co cp b7 ∧ Sl (Rep.slice Rep.str) am av cq cr b8 ∧ Sl (Rep.slice (Rep.int .i64)) am av ct cu b9 ∧ Sl (Rep.slice (Rep.pair (Rep.pair Rep.bool (Rep.slice (Rep.int .u32))) (Rep.slice (Rep.int .u32)))) am av cv cw ca ∧ Box 28 999 am av g3 #[(.string cn), (.slice co b7.length cp), (.slice cq b8.length cr), (.slice ct b9.length cu), (.slice cv ca.length cw)] ∧ Own Rep.str 9 999 am av cy cz cb ∧ Own (Rep.row 9 Rep.str) 23 999 am av c0 c1 cc ∧ Own (Rep.row 3 (Rep.int .i64)) 33 999 am av c3 c4 cd ∧ Own (Rep.row 40 (Rep.pair (Rep.pair Rep.bool (Rep.row 114 (Rep.int .u32))) (Rep.row 114 (Rep.int .u32)))) 51 999 am av c5 c6 ce ∧ Box 28 999 am av g4 #[(.string cx), (.slice cy cb.length cz), (.slice c0 cc.length c1), (.slice c3 cd.length c4), (.slice c5 ce.length c6)] ∧ Own (Rep.int .u32) 114 999 am av c8 c9 cf ∧ Own (Rep.int .u32) 114 999 am av da db cg ∧ Box 40 999 am av g5 #[(.bool c7), (.slice c8 cf.length c9), (.slice da cg.length db)] ∧ Own (Rep.row 40 (Rep.pair (Rep.pair Rep.bool (Rep.slice (Rep.int .u32))) (Rep.slice (Rep.int .u32)))) 51 441 am av dc dd ck ∧ Box 26 440 am av g6 #[(.slice dc ck.length dd)] ∧ Box 78 2 am av dr #[(.func (.func 33) #[] #[(.pointer (some ⟨g3, 0, none⟩)), (.pointer (some ⟨g4, 0, none⟩)), (.pointer (some ⟨g5, 0, none⟩)), (.pointer (some ⟨g6, 0, none⟩))])] ∧ Own (Rep.int .i64) 3 4 am av b6 ci al ∧ Box 33 3 am av dn #[(.slice b6 al.length ci)]) (fun _ _ _ => False) ?_ ?_ ⟨fj, fk, ez, ac.1, du, dv, ac.2.1, dw, dx, ac.2.2.1, dy, dz, ac.2.2.2.1, d0, d1, ac.2.2.2.2, ad.1, d2, d3, ad.2.1, d4, d5, ad.2.2.1, d6, d7, ad.2.2.2.1, d8, d9, ad.2.2.2.2, ba.1.1, ea, eb, ba.1.2, ec, ed, ba.2, ee, ef, cm, hm, hst, fl, az, bp, bq, br, bs, hb3, bt, bu, bv, bw, hb4, bx, bz, hb5, b0, hb6, af, ap, ag⟩ ?_ ?_ ?_
  ·intro ys_ am av col2_ w2_ hJ hk
   obtain ⟨ei, ej, dt, cn, co, cp, b7, cq, cr, b8, ct, cu, b9, cv, cw, ca, cx, cy, cz, cb, c0, c1, cc, c3, c4, cd, c5, c6, ce, c7, c8, c9, cf, da, db, cg, dc, dd, ck, hm, hst, en, az, bf, bg, bh, bi, hb3, bj, bk, bl, bm, hb4, bn, bo, hb5, bd, hb6, af, ap, ag⟩ := hJ
   exact ⟨ei, ej, dt, cn, co, cp, b7, cq, cr, b8, ct, cu, b9, cv, cw, ca, cx, cy, cz, cb, c0, c1, cc, c3, c4, cd, c5, c6, ce, c7, c8, c9, cf, da, db, cg, dc, dd, ck, hm, hst.kpp hk rfl rfl, en.kpp hk rfl rfl, az.kpp hk rfl, bf.kpp hk rfl, bg.kpp hk rfl, bh.kpp hk rfl, bi.kpp hk rfl, hb3.kpp hk rfl, bj.kpp hk rfl rfl, bk.kpp hk rfl rfl, bl.kpp hk rfl rfl, bm.kpp hk rfl rfl, hb4.kpp hk rfl, bn.kpp hk rfl rfl, bo.kpp hk rfl rfl, hb5.kpp hk rfl, bd.kpp hk rfl rfl, hb6.kpp hk rfl, af.kpp hk rfl, ap.kpp hk rfl rfl, ag.kpp hk rfl⟩
  ·intro _ _ _ _ _ h _
   exact h
  ·intro gn hw go eq gp am av args hJ hrec hmk harr
   obtain ⟨ei, ej, dt, cn, co, cp, b7, cq, cr, b8, ct, cu, b9, cv, cw, ca, cx, cy, cz, cb, c0, c1, cc, c3, c4, cd, c5, c6, ce, c7, c8, c9, cf, da, db, cg, dc, dd, ck, hm, hst, en, az, bf, bg, bh, bi, hb3, bj, bk, bl, bm, hb4, bn, bo, hb5, bd, hb6, af, ap, ag⟩ := hJ
   rw [m_learn_each_v2c33xssssxooooxooxr_L2.eq_2] at hm
   have hki := KeepP.refl pCo am av
   obtain ⟨er, e1, rfl, cl⟩ := harr
   refine wR <| lA (.slice er eq.2.length e1) <| lN ?_
   refine ⟨_, hrec, ?_⟩
   intro hx gq a3 f4 hrec2
   clear hrec
   have hrec := hrec2
   clear hrec2
   refine wB <| wS <| wS <| wR ?_
   replace ag := ag.kp a3
   refine lV (.slice b6 al.length ci) (r_ld Tryz.isAgg33 rfl ag.at1) <| lV (.int .i64 (al.length : Int)) (r_len Tryz.underlying33 rfl) <| lM (.int .i64 0) <| lN <| wB ?_
   replace en := en.kp a3
   replace bf := bf.kp a3
   replace bg := bg.kp a3
   replace bh := bh.kp a3
   replace bi := bi.kp a3
   replace bj := bj.kp a3
   replace bk := bk.kp a3
   replace bl := bl.kp a3
   replace bm := bm.kp a3
   replace bn := bn.kp a3
   replace bo := bo.kp a3
   replace bd := bd.kp a3
   replace ap := ap.kp a3
   replace cl := cl.kp a3
   replace az := az.kp a3
   replace af := af.kp a3
   replace hb3 := hb3.kp a3
   replace hb4 := hb4.kp a3
   replace hb5 := hb5.kp a3
   replace hb6 := hb6.kp a3
   replace hmk := hmk.kp a3
   replace hki := hki.kp a3 f4 rfl
   replace hst := hst.kp a3 f4
   refine wloop (fun n f aq => ∃ (ab : Col) (de : Option Addr) (dp : Nat) (df : List Int) (bc : Nat) (es : List Int), n = es.length ∧ al.drop bc = es ∧ m_learn_each_v2c33xssssxooooxooxr_L3 N cn b7 b8 b9 ca cx cb cc cd ce c7 cf cg ck (m_learn_each_v2c33xssssxooooxooxr_L2 N al gp) eq es bc df = some r ∧ St w0 (colL [qc6, ae] col) ab aq ∧ Own (Rep.int .i64) 3 6 ab aq de dp df ∧ Box 33 7 ab aq el #[(.slice de df.length dp)] ∧ Own (Rep.int .i64) 3 8 ab aq er e1 eq.2 ∧ Own (Rep.int .i64) 3 4 ab aq b6 ci al ∧ Sl Rep.str ab aq co cp b7 ∧ Sl (Rep.slice Rep.str) ab aq cq cr b8 ∧ Sl (Rep.slice (Rep.int .i64)) ab aq ct cu b9 ∧ Sl (Rep.slice (Rep.pair (Rep.pair Rep.bool (Rep.slice (Rep.int .u32))) (Rep.slice (Rep.int .u32)))) ab aq cv cw ca ∧ Box 28 999 ab aq g3 #[(.string cn), (.slice co b7.length cp), (.slice cq b8.length cr), (.slice ct b9.length cu), (.slice cv ca.length cw)] ∧ Own Rep.str 9 999 ab aq cy cz cb ∧ Own (Rep.row 9 Rep.str) 23 999 ab aq c0 c1 cc ∧ Own (Rep.row 3 (Rep.int .i64)) 33 999 ab aq c3 c4 cd ∧ Own (Rep.row 40 (Rep.pair (Rep.pair Rep.bool (Rep.row 114 (Rep.int .u32))) (Rep.row 114 (Rep.int .u32)))) 51 999 ab aq c5 c6 ce ∧ Box 28 999 ab aq g4 #[(.string cx), (.slice cy cb.length cz), (.slice c0 cc.length c1), (.slice c3 cd.length c4), (.slice c5 ce.length c6)] ∧ Own (Rep.int .u32) 114 999 ab aq c8 c9 cf ∧ Own (Rep.int .u32) 114 999 ab aq da db cg ∧ Box 40 999 ab aq g5 #[(.bool c7), (.slice c8 cf.length c9), (.slice da cg.length db)] ∧ Own (Rep.row 40 (Rep.pair (Rep.pair Rep.bool (Rep.slice (Rep.int .u32))) (Rep.slice (Rep.int .u32)))) 51 441 ab aq dc dd ck ∧ Box 26 440 ab aq g6 #[(.slice dc ck.length dd)] ∧ Box 78 2 ab aq dr #[(.func (.func 33) #[] #[(.pointer (some ⟨g3, 0, none⟩)), (.pointer (some ⟨g4, 0, none⟩)), (.pointer (some ⟨g5, 0, none⟩)), (.pointer (some ⟨g6, 0, none⟩))])] ∧ Box 33 3 ab aq dn #[(.slice b6 al.length ci)] ∧ Rec 498 ab aq gn gq ∧ Marks ab aq go ∧ KeepP pCo am av ab aq ∧ f 46 = (.int .i64 (bc : Int)) ∧ f 10 = (.pointer (some ⟨el, 0, none⟩)) ∧ f 12 = (.slice er eq.2.length e1) ∧ f 44 = (.slice b6 al.length ci) ∧ f 45 = (.int .i64 (al.length : Int)) ∧ f 5 = (.pointer (some ⟨dr, 0, none⟩)) ∧ f 6 = (.pointer (some ⟨dn, 0, none⟩)) ∧ f 1000000 = (enc [])) al.length ⟨am, ei, ej, dt, 0, al, rfl, rfl, hm, hst, en, az, cl, ap, bf, bg, bh, bi, hb3, bj, bk, bl, bm, hb4, bn, bo, hb5, bd, hb6, af, ag, hrec, hmk, hki, rfl, rfl, rfl, rfl, rfl, rfl, rfl, rfl⟩ ?_
   clear hm; intro n f aq hI
   obtain ⟨ab, de, dp, df, bc, es, hn, hl, hm, hst, dq, az, cl, ap, bf, bg, bh, bi, hb3, bj, bk, bl, bm, hb4, bn, bo, hb5, bd, hb6, af, ag, hrec, hmk, hki, hs46, hs10, hs12, hs44, hs45, hs5, hs6, hs1000000⟩ := hI
   subst hn
   refine .lD 46 hs46 <| .lD 10 hs10 <| .lD 12 hs12 <| .lD 44 hs44 <| .lD 45 hs45 <| .lD 5 hs5 <| .lD 6 hs6 <| .lD 1000000 hs1000000 ?_
   clear hs46 hs10 hs12 hs44 hs45 hs5 hs6 hs1000000
   cases es with
   | nil =>
    have hk : ¬ ((bc : Int) < (al.length : Int)) := by have := List.drop_eq_nil_iff.1 hl; omega
    have hkb := decide_eq_false hk
    rw [m_learn_each_v2c33xssssxooooxooxr_L3.eq_1] at hm
    refine wS <| wR <| lV (.bool (decide ((bc : Int) < (al.length : Int)))) (r_lss (bc : Int) (al.length : Int) rfl rfl) <| lN <| wS ?_
    refine wcondF (congrArg Value.bool hkb) ?_
    refine wexit (inB_hit ?_)
    refine wR <| lV (.func (.func 33) #[] #[(.pointer (some ⟨g3, 0, none⟩)), (.pointer (some ⟨g4, 0, none⟩)), (.pointer (some ⟨g5, 0, none⟩)), (.pointer (some ⟨g6, 0, none⟩))]) (r_ld Tryz.isAgg78 rfl af.at1) <| lV (.slice de df.length dp) (r_ld Tryz.isAgg33 rfl az.at1) ?_
    obtain ⟨f5, gs, hm⟩ := bS hm
    refine lc rfl rfl (r_callv1 Tryz.call33 rfl rfl) (c_learn_Step_1_v0l_v1sssss_v4sr N ab _ 6 999 999 999 999 999 999 999 999 999 440 441 rfl ⟨by decide, rfl⟩ ⟨by decide, rfl⟩ ⟨by decide, rfl⟩ ⟨by decide, rfl⟩ ⟨by decide, rfl⟩ ⟨by decide, rfl⟩ ⟨by decide, rfl⟩ ⟨by decide, rfl⟩ ⟨by decide, rfl⟩ ⟨by decide, rfl⟩ de dp df g3 (cn, b7, b8, b9, ca) co cp cq cr ct cu cv cw g4 (cx, cb, cc, cd, ce) cy cz c0 c1 c3 c4 c5 c6 g5 ((c7, cf), cg) c8 c9 da db g6 ck dc dd dq bf bg bh bi hb3 bj bk bl bm hb4 bn bo hb5 bd hb6 f5 gs) ?_
    rintro _ hy ⟨hz, gt, gu, rfl, a9, gv, gw⟩
    refine ⟨_, rfl, ?_⟩
    replace dq := dq.kpp a9
    replace bf := bf.kpp a9
    replace bg := bg.kpp a9
    replace bh := bh.kpp a9
    replace bi := bi.kpp a9
    replace bj := bj.kpp a9
    replace bk := bk.kpp a9
    replace bl := bl.kpp a9
    replace bm := bm.kpp a9
    replace bn := bn.kpp a9
    replace bo := bo.kpp a9
    replace ap := ap.kpp a9
    replace az := az.kpp a9
    replace af := af.kpp a9
    replace hb3 := hb3.kpp a9
    replace hb4 := hb4.kpp a9
    replace hb5 := hb5.kpp a9
    replace ag := ag.kpp a9
    replace hrec := hrec.kpp a9
    replace hmk := hmk.kpp a9
    replace hki := hki.trans (a9.mono (by first | exact pCo_p2 rfl | exact pCo_p1 rfl | exact pCo_pS rfl | decide))
    clear bd
    clear hb6
    refine lN ?_
    replace hst := hst.kpp a9
    exact ⟨_, hki, ⟨de, dp, df, cn, co, cp, b7, cq, cr, b8, ct, cu, b9, cv, cw, ca, cx, cy, cz, cb, c0, c1, cc, c3, c4, cd, c5, c6, ce, c7, c8, c9, cf, da, db, cg, gt, gu, f5, hm, hst, dq, az, bf, bg, bh, bi, hb3, bj, bk, bl, bm, hb4, bn, bo, hb5, gv, gw, af, ap, ag⟩, hrec, hmk⟩
   | cons et f6 =>
    obtain ⟨hat, hl2_L3, hlt_L3⟩ := drop_get hl
    have hk : (bc : Int) < (al.length : Int) := by omega
    have hkb := decide_eq_true hk
    rw [m_learn_each_v2c33xssssxooooxooxr_L3.eq_2] at hm
    refine wS <| wR <| lV (.bool (decide ((bc : Int) < (al.length : Int)))) (r_lss (bc : Int) (al.length : Int) rfl rfl) <| lN <| wS ?_
    refine wcondT (congrArg Value.bool hkb) ?_
    refine wK <| wS <| wB <| wS <| wR <| lM (.int .i64 (bc : Int)) ?_
    refine lV (sptr b6 (Int.toNat (bc : Int) * 1)) (r_idx Tryz.underlying33 Tryz.sizeOf3 rfl rfl (at?_some hat).1 (at?_some hat).2.1 (ap.addr hat)) ?_
    refine lV (.int .i64 et) (r_ld Tryz.isAgg3 rfl (ap.atInt hat)) <| lA (.int .i64 (bc : Int)) <| lA (.int .i64 et) <| lN ?_
    refine wmix (col := ab) [(0, 0), (1, 1), (2, 1), (3, 1), (4, 1), (5, 0), (6, 1), (7, 2)] (by kernel_rfl) (by kernel_rfl) ?_
    refine xv (v := (.slice de df.length dp)) rfl rfl (fun _ hC => r_ld Tryz.isAgg33 rfl (az.at1.gr (Grow.of_below (col := ab) hC.below))) ?_
    refine xu (v := (.int .i64 et)) rfl rfl (fun _ => r_move rfl) ?_
    refine xu (v := (.slice er eq.2.length e1)) rfl rfl (fun _ => r_move rfl) ?_
    refine xu (v := (.int .i64 (bc : Int))) rfl rfl (fun _ => r_move rfl) ?_
    obtain ⟨eu, e2, hm⟩ := bS hm
    refine xu (v := (sptr er (Int.toNat (bc : Int) * 1))) rfl rfl (fun _ => r_idx Tryz.underlying33 Tryz.sizeOf3 rfl rfl (at?_some e2).1 (at?_some e2).2.1 (cl.addr e2)) ?_
    refine xv (v := (.int .i64 eu)) rfl rfl (fun _ hC => r_ld Tryz.isAgg3 rfl ((cl.gr (Grow.of_below (col := ab) hC.below)).atInt e2)) ?_
    obtain ⟨h0, e3, hm⟩ := bS hm
    refine xu (v := (sptr de (Int.toNat et * 1))) rfl rfl (fun _ => r_idx Tryz.underlying33 Tryz.sizeOf3 rfl rfl (at?_some e3).1 (at?_some e3).2.1 (dq.addr e3)) ?_
    refine xe rfl rfl ?_
    intro gx hC0
    have hC : Grow ab aq ab gx := .of_below hC0.below
    obtain ⟨e4, e5, hm⟩ := bS hm
    have e5 : e4 = df.set (Int.toNat et) eu := (Option.some.inj e5).symm
    replace dq := dq.gr hC
    refine l_store (x1 := eu) (v := (.int .i64 eu)) dq e3 rfl Tryz.sizeOf3 (rd_int .i64 eu) rfl rfl (by decide) ?_
    intro fn a4 f7 e6
    rw [← e5] at e6
    replace az := (az.gr hC).kp a4
    replace az : Box 33 7 ab fn el #[(.slice de e4.length dp)] := by rw [← (show df.length = e4.length by rw [e5, List.length_set])]; exact az
    clear dq
    refine lN ⟨fun w' => Grow ab fn ab w', Grow.refl _ _, fun h => absurd h (by decide), ?_⟩
    refine xnil ?_
    replace cl := (cl.gr hC).kp a4
    replace ap := (ap.gr hC).kp a4
    replace bf := (bf.gr hC).kp a4
    replace bg := (bg.gr hC).kp a4
    replace bh := (bh.gr hC).kp a4
    replace bi := (bi.gr hC).kp a4
    replace bj := (bj.gr hC).kp a4
    replace bk := (bk.gr hC).kp a4
    replace bl := (bl.gr hC).kp a4
    replace bm := (bm.gr hC).kp a4
    replace bn := (bn.gr hC).kp a4
    replace bo := (bo.gr hC).kp a4
    replace bd := (bd.gr hC).kp a4
    replace af := (af.gr hC).kp a4
    replace hb3 := (hb3.gr hC).kp a4
    replace hb4 := (hb4.gr hC).kp a4
    replace hb5 := (hb5.gr hC).kp a4
    replace hb6 := (hb6.gr hC).kp a4
    replace ag := (ag.gr hC).kp a4
    replace hrec := (hrec.gr hC).kp a4
    replace hmk := (hmk.gr hC).kp a4
    replace hki := (hki.gr hC).kp a4 f7 rfl
    replace hst := (hst.grow hC).kp a4 f7
    intro gy hC
    replace hC : Grow ab fn ab gy := .of_below hC.below
    refine wR <| lV (.int .i64 (IntKind.i64.wrap ((bc : Int) + 1))) (r_add (bc : Int) 1 rfl rfl) <| lM (.int .i64 (IntKind.i64.wrap ((bc : Int) + 1))) <| lN ?_
    replace e6 := e6.gr hC
    replace cl := cl.gr hC
    replace ap := ap.gr hC
    replace bf := bf.gr hC
    replace bg := bg.gr hC
    replace bh := bh.gr hC
    replace bi := bi.gr hC
    replace bj := bj.gr hC
    replace bk := bk.gr hC
    replace bl := bl.gr hC
    replace bm := bm.gr hC
    replace bn := bn.gr hC
    replace bo := bo.gr hC
    replace bd := bd.gr hC
    replace az := az.gr hC
    replace af := af.gr hC
    replace hb3 := hb3.gr hC
    replace hb4 := hb4.gr hC
    replace hb5 := hb5.gr hC
    replace hb6 := hb6.gr hC
    replace ag := ag.gr hC
    replace hrec := hrec.gr hC
    replace hmk := hmk.gr hC
    replace hki := hki.gr hC
    replace hst := hst.grow hC
    exact ⟨f6.length, by simp, ⟨ab, de, dp, e4, (bc + 1), f6, rfl, hl2_L3, hm, hst, e6, az, cl, ap, bf, bg, bh, bi, hb3, bj, bk, bl, bm, hb4, bn, bo, hb5, bd, hb6, af, ag, hrec, hmk, hki, (congrArg (Value.int .i64) (wrap_succ (Nat.lt_of_lt_of_le hlt_L3 ap.len))), rfl, rfl, rfl, rfl, rfl, rfl, rfl⟩⟩
  ·clear hmk
   intro gz am av hJ hmk
   obtain ⟨ei, ej, dt, cn, co, cp, b7, cq, cr, b8, ct, cu, b9, cv, cw, ca, cx, cy, cz, cb, c0, c1, cc, c3, c4, cd, c5, c6, ce, c7, c8, c9, cf, da, db, cg, dc, dd, ck, hm, hst, en, az, bf, bg, bh, bi, hb3, bj, bk, bl, bm, hb4, bn, bo, hb5, bd, hb6, af, ap, ag⟩ := hJ
   rw [m_learn_each_v2c33xssssxooooxooxr_L2.eq_1] at hm
   cases hm
   refine ⟨_, (gz :: []), rfl, hmk, ?_⟩
   intro h2 fo g0
   clear hmk
   replace bd := bd.kp fo
   replace hb6 := hb6.kp fo
   replace hst := hst.kp fo g0
   exact ⟨colFL w0.heap.size [qc6, ae] col am (fun n => bif Nat.beq n 441 then ae else bif Nat.beq n 440 then qc6 else 0), dc, dd, rfl, hst.finL rfl (fun n => bif Nat.beq n 441 then ae else bif Nat.beq n 440 then qc6 else 0), hst.finOwnL (g := (fun n => bif Nat.beq n 441 then ae else bif Nat.beq n 440 then qc6 else 0)) rfl bd (by decide) (by decide) rfl, hst.finBoxL (g := (fun n => bif Nat.beq n 441 then ae else bif Nat.beq n 440 then qc6 else 0)) hb6 (by decide) (by decide) rfl⟩
  intro _ _ _ _ h
  exact h.elim
 | cons eo fp =>
  obtain ⟨hat, hl2_L1, hlt_L1⟩ := drop_get hl
  have hk : (ai : Int) < (ao.length : Int) := by omega
  have hkb := decide_eq_true hk
  rw [m_learn_each_v2c33xssssxooooxooxr_L1.eq_2] at hm
  refine wS <| wR <| lV (.bool (decide ((ai : Int) < (ao.length : Int)))) (r_lss (ai : Int) (ao.length : Int) rfl rfl) <| lN <| wS ?_
  refine wcondT (congrArg Value.bool hkb) ?_
  refine wK <| wS ?_
  refine Wp.cut (fun f an => ∃ (aj : Col) (e7 : Option Addr) (e8 : Nat) (ev : List Int) (e9 : Option Addr) (fa : Nat) (ew : List Int), m_learn_each_v2c33xssssxooooxooxr_J1 ai (m_learn_each_v2c33xssssxooooxooxr_L1 N aa ao ac ad ba cm fp) ev ew = some r ∧ St w0 (colL [qc6, ae] col) aj an ∧ Sl (Rep.int .i64) aj an a1 cap1 ao ∧ Sl Rep.str aj an dh di aa.2.1 ∧ Sl (Rep.slice Rep.str) aj an b2 ch aa.2.2.1 ∧ Sl (Rep.slice (Rep.int .i64)) aj an dj dk aa.2.2.2.1 ∧ Sl (Rep.slice (Rep.pair (Rep.pair Rep.bool (Rep.slice (Rep.int .u32))) (Rep.slice (Rep.int .u32)))) aj an dl dm aa.2.2.2.2 ∧ Box 28 1 aj an ek #[(.string aa.1), (.slice dh aa.2.1.length di), (.slice b2 aa.2.2.1.length ch), (.slice dj aa.2.2.2.1.length dk), (.slice dl aa.2.2.2.2.length dm)] ∧ Sl Rep.str aj an du dv ac.2.1 ∧ Sl (Rep.slice Rep.str) aj an dw dx ac.2.2.1 ∧ Sl (Rep.slice (Rep.int .i64)) aj an dy dz ac.2.2.2.1 ∧ Sl (Rep.slice (Rep.pair (Rep.pair Rep.bool (Rep.slice (Rep.int .u32))) (Rep.slice (Rep.int .u32)))) aj an d0 d1 ac.2.2.2.2 ∧ Box 28 999 aj an g3 #[(.string ac.1), (.slice du ac.2.1.length dv), (.slice dw ac.2.2.1.length dx), (.slice dy ac.2.2.2.1.length dz), (.slice d0 ac.2.2.2.2.length d1)] ∧ Own Rep.str 9 999 aj an d2 d3 ad.2.1 ∧ Own (Rep.row 9 Rep.str) 23 999 aj an d4 d5 ad.2.2.1 ∧ Own (Rep.row 3 (Rep.int .i64)) 33 999 aj an d6 d7 ad.2.2.2.1 ∧ Own (Rep.row 40 (Rep.pair (Rep.pair Rep.bool (Rep.row 114 (Rep.int .u32))) (Rep.row 114 (Rep.int .u32)))) 51 999 aj an d8 d9 ad.2.2.2.2 ∧ Box 28 999 aj an g4 #[(.string ad.1), (.slice d2 ad.2.1.length d3), (.slice d4 ad.2.2.1.length d5), (.slice d6 ad.2.2.2.1.length d7), (.slice d8 ad.2.2.2.2.length d9)] ∧ Own (Rep.int .u32) 114 999 aj an ea eb ba.1.2 ∧ Own (Rep.int .u32) 114 999 aj an ec ed ba.2 ∧ Box 40 999 aj an g5 #[(.bool ba.1.1), (.slice ea ba.1.2.length eb), (.slice ec ba.2.length ed)] ∧ Own (Rep.row 40 (Rep.pair (Rep.pair Rep.bool (Rep.slice (Rep.int .u32))) (Rep.slice (Rep.int .u32)))) 51 441 aj an ee ef cm ∧ Box 26 440 aj an g6 #[(.slice ee cm.length ef)] ∧ Box 78 2 aj an dr #[(.func (.func 33) #[] #[(.pointer (some ⟨g3, 0, none⟩)), (.pointer (some ⟨g4, 0, none⟩)), (.pointer (some ⟨g5, 0, none⟩)), (.pointer (some ⟨g6, 0, none⟩))])] ∧ Own (Rep.int .i64) 3 4 aj an e7 e8 ev ∧ Box 33 3 aj an dn #[(.slice e7 ev.length e8)] ∧ Own (Rep.int .i64) 3 5 aj an e9 fa ew ∧ Marks aj an [] ∧ f 1 = (.slice a1 ao.length cap1) ∧ f 15 = (.slice a1 ao.length cap1) ∧ f 16 = (.int .i64 (ao.length : Int)) ∧ f 17 = (.int .i64 (ai : Int)) ∧ f 3 = (.pointer (some ⟨ek, 0, none⟩)) ∧ f 5 = (.pointer (some ⟨dr, 0, none⟩)) ∧ f 6 = (.pointer (some ⟨dn, 0, none⟩)) ∧ f 7 = (.slice e9 ew.length fa) ∧ f 1000000 = (enc [])) ?_ ?_
  ·intro f an hJ
   obtain ⟨aj, e7, e8, ev, e9, fa, ew, hm, hst, h1, b3, be, b4, b5, b1, bp, bq, br, bs, hb3, bt, bu, bv, bw, hb4, bx, bz, hb5, b0, hb6, af, g1, ag, g2, hmk, hs1, hs15, hs16, hs17, hs3, hs5, hs6, hs7, hs1000000⟩ := hJ
   rw [m_learn_each_v2c33xssssxooooxooxr_J1.eq_1] at hm
   refine .lD 1 hs1 <| .lD 15 hs15 <| .lD 16 hs16 <| .lD 17 hs17 <| .lD 3 hs3 <| .lD 5 hs5 <| .lD 6 hs6 <| .lD 7 hs7 <| .lD 1000000 hs1000000 ?_
   clear hs1 hs15 hs16 hs17 hs3 hs5 hs6 hs7 hs1000000
   refine wR <| lV (.int .i64 (IntKind.i64.wrap ((ai : Int) + 1))) (r_add (ai : Int) 1 rfl rfl) <| lM (.int .i64 (IntKind.i64.wrap ((ai : Int) + 1))) <| lN ?_
   exact ⟨fp.length, by simp, ⟨aj, (ai + 1), e7, e8, ev, e9, fa, ew, fp, rfl, hl2_L1, hm, hst, h1, b3, be, b4, b5, b1, bp, bq, br, bs, hb3, bt, bu, bv, bw, hb4, bx, bz, hb5, b0, hb6, af, g1, ag, g2, hmk, (congrArg (Value.int .i64) (wrap_succ (Nat.lt_of_lt_of_le hlt_L1 h1.1.1))), rfl, rfl, rfl, rfl, rfl, rfl, rfl, rfl⟩⟩
  refine wB <| wS <| wR <| lM (.int .i64 (ai : Int)) ?_
  refine lV (sptr a1 (Int.toNat (ai : Int) * 1)) (r_idx Tryz.underlying33 Tryz.sizeOf3 rfl rfl (at?_some hat).1 (at?_some hat).2.1 (h1.addr hat)) ?_
  refine lV (.int .i64 eo) (r_ld Tryz.isAgg3 rfl (h1.atInt hat)) <| lA (.int .i64 (ai : Int)) <| lA (.int .i64 eo) <| lN <| wS <| wR <| lM (.int .i64 eo) <| lV (.bool (decide (eo < 0))) (r_lss eo 0 rfl rfl) <| lN ?_
  refine wcond (decide (eo < 0)) rfl (fun hb => ?_) (fun hb => ?_)
  ·rw [if_pos hb] at hm
   clear hb
   refine wS <| wR <| lV (.slice b6 al.length ci) (r_ld Tryz.isAgg33 rfl ag.at1) <| lM (.int .i64 (ai : Int)) ?_
   refine l_lit (col := ah) (r := (Rep.int .i64)) (xs := [(ai : Int)]) [(.int .i64 (ai : Int))] 9 rfl Tryz.underlying33 el3_32V2C33XSSSSXOOOOXOOXR rfl rfl rfl rfl rfl rfl (by intro v hv; simp only [List.mem_cons, List.not_mem_nil, or_false] at hv; subst hv; rfl) (RowsH.ofF (Rows.consF (r := (Rep.int .i64)) (x := (ai : Int)) (cs := [(.int .i64 (ai : Int))]) (rd_int .i64 (ai : Int)) Rows.nil0)) ?_
   intro h3 g7 g8 ar g9
   obtain ⟨f8, hm⟩ := cS hm
   replace ap := ap.gr ar
   refine l_ext (col := g8) (w := g7) (r := (Rep.int .i64)) (c := 4) (c2 := 4) (ap.ex) (g9.srcN (NB.int (k := .i64))) rfl Tryz.underlying33 el3_32V2C33XSSSSXOOOOXOOXR rfl rfl rfl f8.1 f8.2 (by decide) ?_
   intro fq fr h4 f9 aw fb
   clear ap
   replace ag := (ag.gr ar).kpp aw
   refine l_bstore (v := (.slice fq ((al ++ [(ai : Int)]).length) fr)) ag Tryz.sizeOf33 rfl rfl (by intro u hu; simp only [Value.cells, List.mem_cons, List.not_mem_nil, or_false] at hu; subst hu; rfl) rfl rfl ?_
   intro ha ax hc ey
   clear ag
   replace ey : Box 33 3 f9 ha dn #[(.slice fq ((al ++ [(ai : Int)]).length) fr)] := ey
   replace fb := fb.kp ax
   have fs := fb.new
   clear fb
   refine lN <| wR <| lM (.slice eg cj.length eh) <| lV (.pointer ((some (⟨ek, 0, none⟩ : Addr)).map (·.add 2))) (rF (sz := 1) (off := 2) Tryz.underlying28 rfl Tryz.sizeOf24 (by decide) rfl rfl ⟨_, _, rfl⟩) ?_
   replace b1 := ((b1.gr ar).kpp aw).kp ax
   refine lV (.slice b2 aa.2.2.1.length ch) (r_ld Tryz.isAgg24 rfl ((b1.atN).nth (q := 2) (v := (.slice b2 aa.2.2.1.length ch)) rfl)) <| lM (.int .i64 (ai : Int)) ?_
   obtain ⟨dg, fc, hm⟩ := bS hm
   replace be := ((be.gr ar).kpp aw).kp ax
   refine lV (sptr b2 (Int.toNat (ai : Int) * 1)) (r_idx Tryz.underlying24 Tryz.sizeOf23 rfl rfl (at?_some fc).1 (at?_some fc).2.1 (be.addr fc)) ?_
   obtain ⟨_, he, hf⟩ := be.atN fc
   obtain ⟨⟨hg, hh, rfl, h5⟩, _⟩ := he
   refine lV (.slice hg dg.length hh) (r_ld Tryz.isAgg23 rfl hf.one) <| lV (.int .i64 (dg.length : Int)) (r_len Tryz.underlying23 rfl) ?_
   refine l_lit (col := f9) (r := (Rep.int .i64)) (xs := [(dg.length : Int)]) [(.int .i64 (dg.length : Int))] 10 rfl Tryz.underlying33 el3_32V2C33XSSSSXOOOOXOOXR rfl rfl rfl rfl rfl rfl (by intro v hv; simp only [List.mem_cons, List.not_mem_nil, or_false] at hv; subst hv; rfl) (RowsH.ofF (Rows.consF (r := (Rep.int .i64)) (x := (dg.length : Int)) (cs := [(.int .i64 (dg.length : Int))]) (rd_int .i64 (dg.length : Int)) Rows.nil0)) ?_
   intro h6 hi hj au ho
   obtain ⟨ga, hm⟩ := cS hm
   replace ds := (((ds.gr ar).kpp aw).kp ax).gr au
   refine l_appendM (col := hj) (w := hi) (r := (Rep.int .i64)) (c := 5) (c2 := 5) (xs := cj) (ys := [(dg.length : Int)]) ds (ho.srcN (NB.int (k := .i64))) rfl Tryz.underlying33 el3_32V2C33XSSSSXOOOOXOOXR rfl rfl rfl ga.1 ga.2 (by decide) ?_
   intro gb gc h7 hp ay hq
   clear ds
   refine lA (.slice gb ((cj ++ [(dg.length : Int)]).length) gc) <| lN ?_
   replace h1 := ((((h1.gr ar).kpp aw).kp ax).gr au).kpp ay
   replace b3 := ((((b3.gr ar).kpp aw).kp ax).gr au).kpp ay
   replace b4 := ((((b4.gr ar).kpp aw).kp ax).gr au).kpp ay
   replace b5 := ((((b5.gr ar).kpp aw).kp ax).gr au).kpp ay
   replace bp := ((((bp.gr ar).kpp aw).kp ax).gr au).kpp ay
   replace bq := ((((bq.gr ar).kpp aw).kp ax).gr au).kpp ay
   replace br := ((((br.gr ar).kpp aw).kp ax).gr au).kpp ay
   replace bs := ((((bs.gr ar).kpp aw).kp ax).gr au).kpp ay
   replace bt := ((((bt.gr ar).kpp aw).kp ax).gr au).kpp ay
   replace bu := ((((bu.gr ar).kpp aw).kp ax).gr au).kpp ay
   replace bv := ((((bv.gr ar).kpp aw).kp ax).gr au).kpp ay
   replace bw := ((((bw.gr ar).kpp aw).kp ax).gr au).kpp ay
   replace bx := ((((bx.gr ar).kpp aw).kp ax).gr au).kpp ay
   replace bz := ((((bz.gr ar).kpp aw).kp ax).gr au).kpp ay
   replace b0 := ((((b0.gr ar).kpp aw).kp ax).gr au).kpp ay
   replace af := ((((af.gr ar).kpp aw).kp ax).gr au).kpp ay
   replace hb3 := ((((hb3.gr ar).kpp aw).kp ax).gr au).kpp ay
   replace hb4 := ((((hb4.gr ar).kpp aw).kp ax).gr au).kpp ay
   replace hb5 := ((((hb5.gr ar).kpp aw).kp ax).gr au).kpp ay
   replace hb6 := ((((hb6.gr ar).kpp aw).kp ax).gr au).kpp ay
   replace hmk := ((((hmk.gr ar).kpp aw).kp ax).gr au).kpp ay
   replace hst := ((((hst.grow ar).kpp aw).kp ax hc).grow au).kpp ay
   replace be := (be.gr au).kpp ay
   replace fs := (fs.gr au).kpp ay
   replace b1 := (b1.gr au).kpp ay
   replace ey := (ey.gr au).kpp ay
   exact ⟨hp, fq, fr, (al ++ [(ai : Int)]), gb, gc, (cj ++ [(dg.length : Int)]), hm, hst, h1, b3, be, b4, b5, b1, bp, bq, br, bs, hb3, bt, bu, bv, bw, hb4, bx, bz, hb5, b0, hb6, af, fs, ey, hq, hmk, rfl, rfl, rfl, rfl, rfl, rfl, rfl, rfl, rfl⟩
  rw [if_neg (by rw [hb]; decide)] at hm
  clear hb
  refine wK ?_
  exact ⟨ah, b6, ci, al, eg, eh, cj, hm, hst, h1, b3, be, b4, b5, b1, bp, bq, br, bs, hb3, bt, bu, bv, bw, hb4, bx, bz, hb5, b0, hb6, af, ap, ag, ds, hmk, rfl, rfl, rfl, rfl, rfl, rfl, rfl, rfl, rfl⟩
theorem el33_11 : ElemOk Tryz.prog 33 1 24 := ⟨Tryz.t33, _, rfl, rfl, rfl, rfl, rfl⟩
def m_learn_Step_L3 (N : Nat) (ab : (ByteArray × (List ByteArray) × (List (List ByteArray)) × (List (List Int)) × (List (List ((Bool × (List Int)) × (List Int)))))) (ad : List (List ((Bool × (List Int)) × (List Int)))) : Nat → Int → ByteArray → (List ByteArray) → (List (List ByteArray)) → (List (List Int)) → (List (List ((Bool × (List Int)) × (List Int)))) → Option ((ByteArray × (List ByteArray) × (List (List ByteArray)) × (List (List Int)) × (List (List ((Bool × (List Int)) × (List Int))))) × Int)
  | 0, _, _, _, _, _, _ => none
  | ai + 1, aa, ae, af, ag, ah, ac => if (decide (aa < (ab.2.1.length : Int))) = true then ((at? ac aa).bind fun aj => (at? ad aa).bind fun ak => (at? ab.2.2.1 aa).bind fun al => (m_learn_shares N aj ak (al.length : Int)).bind fun am => (m_learn_Step_L3 N ab ad ai) (IntKind.i64.wrap (aa + 1)) ae af ag ah (ac.set (Int.toNat aa) am)) else (some ((ae, af, ag, ah, ac), 0))
termination_by structural x => x
def m_learn_Step_L2 (N : Nat) (aa : (ByteArray × (List ByteArray) × (List (List ByteArray)) × (List (List Int)) × (List (List ((Bool × (List Int)) × (List Int)))))) (ab : (ByteArray × (List ByteArray) × (List (List ByteArray)) × (List (List Int)) × (List (List ((Bool × (List Int)) × (List Int)))))) : List (List Int) → (List (List ((Bool × (List Int)) × (List Int)))) → Option ((ByteArray × (List ByteArray) × (List (List ByteArray)) × (List (List Int)) × (List (List ((Bool × (List Int)) × (List Int))))) × Int)
  | [], ac => m_learn_Step_L3 N aa ac N 0 ab.1 ab.2.1 ab.2.2.1 ab.2.2.2.1 ab.2.2.2.2
  | ae :: af, ac => (m_data_Chance N (aa.1, aa.2.1, aa.2.2.1, aa.2.2.2.1, aa.2.2.2.2) [ae]).bind fun ad => (m_learn_each_v2c33xssssxooooxooxr N (aa.1, aa.2.1, aa.2.2.1, aa.2.2.2.1, aa.2.2.2.2) ae (aa.1, aa.2.1, aa.2.2.1, aa.2.2.2.1, aa.2.2.2.2) (ab.1, ab.2.1, ab.2.2.1, ab.2.2.2.1, ab.2.2.2.2) ((ad.1.1.1, ad.1.1.2), ad.1.2) ac).bind fun ag => (m_learn_Step_L2 N aa ab af) ag
termination_by structural x => x
def m_learn_Step_L1 (N : Nat) (ab : (ByteArray × (List ByteArray) × (List (List ByteArray)) × (List (List Int)) × (List (List ((Bool × (List Int)) × (List Int)))))) (ae : (List (List Int))) (af : (ByteArray × (List ByteArray) × (List (List ByteArray)) × (List (List Int)) × (List (List ((Bool × (List Int)) × (List Int)))))) : Nat → (List (List ((Bool × (List Int)) × (List Int)))) → Int → Option ((ByteArray × (List ByteArray) × (List (List ByteArray)) × (List (List Int)) × (List (List ((Bool × (List Int)) × (List Int))))) × Int)
  | 0, _, _ => none
  | ag + 1, ac, aa => if (decide (aa < (ab.2.1.length : Int))) = true then ((at? ab.2.2.2.2 aa).bind fun ad => chk (ad.length * 56 ≤ 281474976710656 ∧ ad.length ≤ maxLen) ((at? ac aa).bind fun ai => (some (ac.set (Int.toNat aa) (List.replicate ad.length (((false, ([] : List Int)), ([] : List Int)) : ((Bool × (List Int)) × (List Int)))))).bind fun ah => (m_learn_Step_L1 N ab ae af ag) ah (IntKind.i64.wrap (aa + 1)))) else (m_learn_Step_L2 N ab af ae ac)
termination_by structural x => x
def m_learn_Step (N : Nat) (aa : (ByteArray × (List ByteArray) × (List (List ByteArray)) × (List (List Int)) × (List (List ((Bool × (List Int)) × (List Int)))))) (ac : (List (List Int))) : Option ((ByteArray × (List ByteArray) × (List (List ByteArray)) × (List (List Int)) × (List (List ((Bool × (List Int)) × (List Int))))) × Int) :=
  (m_learn_wrong N (aa.1, aa.2.1, aa.2.2.1, aa.2.2.2.1, aa.2.2.2.2) ac).bind fun ad => if (!decide (ad = 0)) = true then none else ((m_data_Chance N (aa.1, aa.2.1, aa.2.2.1, aa.2.2.2.1, aa.2.2.2.2) ac).bind fun ab => if (!decide (ab.2 = 0)) = true then none else ((m_frac_Sign N ((ab.1.1.1, ab.1.1.2), ab.1.2)).bind fun ae => if (decide (ae = 0)) = true then (some ((⟨#[]⟩, ([] : List ByteArray), ([] : List (List ByteArray)), ([] : List (List Int)), ([] : List (List ((Bool × (List Int)) × (List Int))))), 52)) else ((m_learn_copied N (aa.1, aa.2.1, aa.2.2.1, aa.2.2.2.1, aa.2.2.2.2)).bind fun af => chk (aa.2.1.length * 24 ≤ 281474976710656 ∧ aa.2.1.length ≤ maxLen) (m_learn_Step_L1 N aa ac af N (List.replicate aa.2.1.length (([] : List ((Bool × (List Int)) × (List Int))) : (List ((Bool × (List Int)) × (List Int))))) 0))))
theorem c_learn_Step (N : Nat) (c1 : Nat) (c2 : Nat) (c3 : Nat) (c4 : Nat) (col : Col) (w0 : World) (ak : Option Addr) (al : Nat) (an : Option Addr) (aq : Nat) (aw : Option Addr) (ax : Nat) (ao : Option Addr) (ar : Nat) (aa : (ByteArray × (List ByteArray) × (List (List ByteArray)) × (List (List Int)) × (List (List ((Bool × (List Int)) × (List Int)))))) (a1 : Option Addr) (cap1 : Nat) (ap : (List (List Int))) (ae : Sl Rep.str col w0 ak al aa.2.1) (ac : Sl (Rep.slice Rep.str) col w0 an aq aa.2.2.1) (af : Sl (Rep.slice (Rep.int .i64)) col w0 aw ax aa.2.2.2.1) (ad : Sl (Rep.slice (Rep.pair (Rep.pair Rep.bool (Rep.slice (Rep.int .u32))) (Rep.slice (Rep.int .u32)))) col w0 ao ar aa.2.2.2.2) (h1 : Sl (Rep.slice (Rep.int .i64)) col w0 a1 cap1 ap) (r : ((ByteArray × (List ByteArray) × (List (List ByteArray)) × (List (List Int)) × (List (List ((Bool × (List Int)) × (List Int))))) × Int)) (hm : m_learn_Step N aa ap = some r) :
    Calls Tryz.prog 11 #[(.agg #[(.string aa.1), (.slice ak aa.2.1.length al), (.slice an aa.2.2.1.length aq), (.slice aw aa.2.2.2.1.length ax), (.slice ao aa.2.2.2.2.length ar)]), (.slice a1 ap.length cap1)] w0 (fun e w' => ∃ (col' : Col) (ra1 : Option Addr) (rc2 : Nat) (ra4 : Option Addr) (rc5 : Nat) (ra7 : Option Addr) (rc8 : Nat) (ra10 : Option Addr) (rc11 : Nat), e = .returned (.tuple #[(.agg #[(.string r.1.1), (.slice ra1 r.1.2.1.length rc2), (.slice ra4 r.1.2.2.1.length rc5), (.slice ra7 r.1.2.2.2.1.length rc8), (.slice ra10 r.1.2.2.2.2.length rc11)]), (.int .i64 r.2)]) ∧ Grow col w0 col' w' ∧ Own Rep.str 9 c1 col' w' ra1 rc2 r.1.2.1 ∧ Own (Rep.row 9 Rep.str) 23 c2 col' w' ra4 rc5 r.1.2.2.1 ∧ Own (Rep.row 3 (Rep.int .i64)) 33 c3 col' w' ra7 rc8 r.1.2.2.2.1 ∧ Own (Rep.row 40 (Rep.pair (Rep.pair Rep.bool (Rep.row 114 (Rep.int .u32))) (Rep.row 114 (Rep.int .u32)))) 51 c4 col' w' ra10 rc11 r.1.2.2.2.2) := by
 refine calls_ofR (m := 105) (args := [(.agg #[(.string aa.1), (.slice ak aa.2.1.length al), (.slice an aa.2.2.1.length aq), (.slice aw aa.2.2.2.1.length ax), (.slice ao aa.2.2.2.2.length ar)]), (.slice a1 ap.length cap1)]) Tryz.func11 rfl rfl rfl ?_
 rw [m_learn_Step.eq_1] at hm
 have hst := St.start col w0
 refine wS <| wR ?_
 refine l_box (col := (col0 col)) (v := (.agg #[(.string aa.1), (.slice ak aa.2.1.length al), (.slice an aa.2.2.1.length aq), (.slice aw aa.2.2.2.1.length ax), (.slice ao aa.2.2.2.2.length ar)])) 1 rfl rfl ?_
 intro bi fc ex dd ab
 replace ab : Box 28 1 ex fc bi #[(.string aa.1), (.slice ak aa.2.1.length al), (.slice an aa.2.2.1.length aq), (.slice aw aa.2.2.2.1.length ax), (.slice ao aa.2.2.2.2.length ar)] := ab
 refine l_alloc (col := ex) (v := (.agg #[(.string (⟨#[]⟩)), (.slice none (([] : List ByteArray).length) 0), (.slice none (([] : List (List ByteArray)).length) 0), (.slice none (([] : List (List Int)).length) 0), (.slice none (([] : List (List ((Bool × (List Int)) × (List Int)))).length) 0)])) 2 rfl Tryz.zeroValue28 ?_
 intro ce ey dn c5 ah
 replace ah : Box 28 2 dn ey ce #[(.string (⟨#[]⟩)), (.slice none (([] : List ByteArray).length) 0), (.slice none (([] : List (List ByteArray)).length) 0), (.slice none (([] : List (List Int)).length) 0), (.slice none (([] : List (List ((Bool × (List Int)) × (List Int)))).length) 0)] := ah
 refine lA (.int .i64 0) <| lN <| wS <| wS <| wR ?_
 replace ab := ab.gr c5
 refine lV (.agg #[(.string aa.1), (.slice ak aa.2.1.length al), (.slice an aa.2.2.1.length aq), (.slice aw aa.2.2.2.1.length ax), (.slice ao aa.2.2.2.2.length ar)]) (r_ldN Tryz.isAgg28 Tryz.sizeOf28 rfl rfl ab.atN) <| lM (.slice a1 ap.length cap1) ?_
 obtain ⟨de, fd, hm⟩ := bS hm
 replace ae := ((ae.keep (Stay.start col w0)).gr dd).gr c5
 replace ac := ((ac.keep (Stay.start col w0)).gr dd).gr c5
 replace af := ((af.keep (Stay.start col w0)).gr dd).gr c5
 replace ad := ((ad.keep (Stay.start col w0)).gr dd).gr c5
 replace h1 := ((h1.keep (Stay.start col w0)).gr dd).gr c5
 refine lc rfl rfl (r_call2 Tryz.call23 rfl rfl) (c_learn_wrong N dn _ ak al an aq aw ax ao ar (aa.1, aa.2.1, aa.2.2.1, aa.2.2.2.1, aa.2.2.2.2) a1 cap1 ap ae ac af ad h1 de fd) ?_
 rintro _ fe ⟨rfl, bw⟩
 refine ⟨_, rfl, ?_⟩
 replace bw : Grow dn ey dn fe := .of_below bw
 refine lA (.int .i64 de) <| lN <| wS <| wR <| lM (.int .i64 de) <| lV (.bool (!decide (de = 0))) (r_neq de 0 rfl rfl) <| lN ?_
 replace hst := ((hst.grow dd).grow c5).grow bw
 replace h1 := h1.gr bw
 replace ae := ae.gr bw
 replace ac := ac.gr bw
 replace af := af.gr bw
 replace ad := ad.gr bw
 replace ab := ab.gr bw
 replace ah := ah.gr bw
 refine wcond (!decide (de = 0)) rfl (fun hb => ?_) (fun hb => ?_)
 ·rw [if_pos hb] at hm
  clear hb
  cases hm
 rw [if_neg (by rw [hb]; decide)] at hm
 clear hb
 refine wK <| wS <| wS <| wR <| lV (.agg #[(.string aa.1), (.slice ak aa.2.1.length al), (.slice an aa.2.2.1.length aq), (.slice aw aa.2.2.2.1.length ax), (.slice ao aa.2.2.2.2.length ar)]) (r_ldN Tryz.isAgg28 Tryz.sizeOf28 rfl rfl ab.atN) <| lM (.slice a1 ap.length cap1) ?_
 obtain ⟨am, ff, hm⟩ := bS hm
 refine lc rfl rfl (r_call2 Tryz.call31 rfl rfl) (c_data_Chance N 3 4 dn _ ak al an aq aw ax ao ar (aa.1, aa.2.1, aa.2.2.1, aa.2.2.2.1, aa.2.2.2.2) a1 cap1 ap ae ac af ad h1 am ff) ?_
 rintro _ gy ⟨fg, df, dg, dh, di, rfl, cj, ei, ej⟩
 refine ⟨_, rfl, ?_⟩
 refine lM (.tuple #[(.agg #[(.bool am.1.1.1), (.slice df am.1.1.2.length dg), (.slice dh am.1.2.length di)]), (.int .i64 am.2)]) <| lV (.agg #[(.bool am.1.1.1), (.slice df am.1.1.2.length dg), (.slice dh am.1.2.length di)]) (r_extract rfl rfl) <| lV (.int .i64 am.2) (r_extract rfl rfl) ?_
 refine l_alloc (col := fg) (v := (.agg #[(.bool false), (.slice none (([] : List Int).length) 0), (.slice none (([] : List Int).length) 0)])) 5 rfl Tryz.zeroValue40 ?_
 intro ez fh ck bx d1
 replace d1 : Box 40 5 ck fh ez #[(.bool false), (.slice none (([] : List Int).length) 0), (.slice none (([] : List Int).length) 0)] := d1
 refine l_bstore (v := (.agg #[(.bool am.1.1.1), (.slice df am.1.1.2.length dg), (.slice dh am.1.2.length di)])) d1 Tryz.sizeOf40 rfl rfl (by intro u hu; simp only [Value.cells, List.mem_cons, List.not_mem_nil, or_false] at hu; rcases hu with rfl | rfl | rfl <;> rfl) rfl rfl ?_
 intro e0 bz fi ek
 clear d1
 replace ek : Box 40 5 ck e0 ez #[(.bool am.1.1.1), (.slice df am.1.1.2.length dg), (.slice dh am.1.2.length di)] := ek
 refine lA (.int .i64 am.2) <| lN <| wB <| wS <| wR <| lM (.int .i64 am.2) <| lV (.bool (!decide (am.2 = 0))) (r_neq am.2 0 rfl rfl) <| lA (.bool (!decide (am.2 = 0))) <| lN ?_
 replace h1 := ((h1.gr cj).gr bx).kp bz
 replace ae := ((ae.gr cj).gr bx).kp bz
 replace ac := ((ac.gr cj).gr bx).kp bz
 replace af := ((af.gr cj).gr bx).kp bz
 replace ad := ((ad.gr cj).gr bx).kp bz
 replace ab := ((ab.gr cj).gr bx).kp bz
 replace ah := ((ah.gr cj).gr bx).kp bz
 replace hst := ((hst.grow cj).grow bx).kp bz fi
 replace ei := (ei.gr bx).kp bz
 replace ej := (ej.gr bx).kp bz
 refine wcond (!decide (am.2 = 0)) rfl (fun hb => ?_) (fun hb => ?_)
 ·rw [if_pos hb] at hm
  clear hb
  cases hm
 rw [if_neg (by rw [hb]; decide)] at hm
 clear hb
 refine wS <| wR <| lV (.agg #[(.bool am.1.1.1), (.slice df am.1.1.2.length dg), (.slice dh am.1.2.length di)]) (r_ldN Tryz.isAgg40 Tryz.sizeOf40 rfl rfl ek.atN) ?_
 obtain ⟨dp, fj, hm⟩ := bS hm
 refine lc rfl rfl (r_call1 Tryz.call24 rfl) (c_frac_Sign N (frC 4 (frC 3 ck)) _ df dg dh di ((am.1.1.1, am.1.1.2), am.1.2) ((ei.toSlF (Froz.int .u32)).froz 4) ((ej.froz 3 (by decide)).toSlF (Froz.int .u32)) dp fj) ?_
 rintro _ fk ⟨rfl, b0⟩
 refine ⟨_, rfl, ?_⟩
 replace b0 : Grow ck e0 ck fk := .of_below b0
 refine lV (.bool (decide (dp = 0))) (r_eql dp 0 rfl rfl) <| lA (.bool (decide (dp = 0))) <| lN ?_
 replace h1 := h1.gr b0
 replace ae := ae.gr b0
 replace ac := ac.gr b0
 replace af := af.gr b0
 replace ad := ad.gr b0
 replace ab := ab.gr b0
 replace ah := ah.gr b0
 replace hst := hst.grow b0
 refine wcond (decide (dp = 0)) rfl (fun hb => ?_) (fun hb => ?_)
 ·rw [if_pos hb] at hm
  clear hb
  refine wS <| wR <| lV (.agg #[(.string (⟨#[]⟩)), (.slice none (([] : List ByteArray).length) 0), (.slice none (([] : List (List ByteArray)).length) 0), (.slice none (([] : List (List Int)).length) 0), (.slice none (([] : List (List ((Bool × (List Int)) × (List Int)))).length) 0)]) (r_build (l := [_, _, _, _, _]) (qs := [(0, 1), (1, 1), (2, 1), (3, 1), (4, 1)]) Tryz.underlying28 Tryz.zeroValue28 ⟨rfl, Tryz.sizeOf9, rfl, Tryz.sizeOf23, rfl, Tryz.sizeOf24, rfl, Tryz.sizeOf25, rfl, Tryz.sizeOf26, trivial⟩ rfl) ?_
  refine l_bstore (v := (.agg #[(.string (⟨#[]⟩)), (.slice none (([] : List ByteArray).length) 0), (.slice none (([] : List (List ByteArray)).length) 0), (.slice none (([] : List (List Int)).length) 0), (.slice none (([] : List (List ((Bool × (List Int)) × (List Int)))).length) 0)])) ah Tryz.sizeOf28 rfl rfl (by intro u hu; simp only [Value.cells, List.mem_cons, List.not_mem_nil, or_false] at hu; rcases hu with rfl | rfl | rfl | rfl | rfl <;> rfl) rfl rfl ?_
  intro fl fm fn el
  clear ah
  replace el : Box 28 2 ck fl ce #[(.string (⟨#[]⟩)), (.slice none (([] : List ByteArray).length) 0), (.slice none (([] : List (List ByteArray)).length) 0), (.slice none (([] : List (List Int)).length) 0), (.slice none (([] : List (List ((Bool × (List Int)) × (List Int)))).length) 0)] := el
  refine lA (.int .i64 52) <| lN ?_
  refine wret ?_
  cases hm
  replace hst := hst.kp fm fn
  exact ⟨rfl, _, res_at rfl rfl Tryz.isAgg28 Tryz.sizeOf28 rfl rfl el.atN rfl rfl, colF w0.heap.size col ck (fun n => 0), none, 0, none, 0, none, 0, none, 0, rfl, hst.fin (fun n => 0), Own.nil, Own.nil, Own.nil, Own.nil⟩
 rw [if_neg (by rw [hb]; decide)] at hm
 clear hb
 refine wK <| wS <| wR <| lV (.agg #[(.string aa.1), (.slice ak aa.2.1.length al), (.slice an aa.2.2.1.length aq), (.slice aw aa.2.2.2.1.length ax), (.slice ao aa.2.2.2.2.length ar)]) (r_ldN Tryz.isAgg28 Tryz.sizeOf28 rfl rfl ab.atN) ?_
 obtain ⟨ag, fo, hm⟩ := bS hm
 refine lc rfl rfl (r_call1 Tryz.call25 rfl) (c_learn_copied N 6 7 8 9 ck _ ak al an aq aw ax ao ar (aa.1, aa.2.1, aa.2.2.1, aa.2.2.2.1, aa.2.2.2.2) ae ac af ad ag fo) ?_
 rintro _ gz ⟨fp, cl, cm, cn, co, cp, cq, cr, ct, rfl, cu, ay, az, a0, a2⟩
 refine ⟨_, rfl, ?_⟩
 refine l_alloc (col := fp) (v := (.agg #[(.string (⟨#[]⟩)), (.slice none (([] : List ByteArray).length) 0), (.slice none (([] : List (List ByteArray)).length) 0), (.slice none (([] : List (List Int)).length) 0), (.slice none (([] : List (List ((Bool × (List Int)) × (List Int)))).length) 0)])) 10 rfl Tryz.zeroValue28 ?_
 intro bp fq em bt d2
 replace d2 : Box 28 10 em fq bp #[(.string (⟨#[]⟩)), (.slice none (([] : List ByteArray).length) 0), (.slice none (([] : List (List ByteArray)).length) 0), (.slice none (([] : List (List Int)).length) 0), (.slice none (([] : List (List ((Bool × (List Int)) × (List Int)))).length) 0)] := d2
 refine l_bstore (v := (.agg #[(.string ag.1), (.slice cl ag.2.1.length cm), (.slice cn ag.2.2.1.length co), (.slice cp ag.2.2.2.1.length cq), (.slice cr ag.2.2.2.2.length ct)])) d2 Tryz.sizeOf28 rfl rfl (by intro u hu; simp only [Value.cells, List.mem_cons, List.not_mem_nil, or_false] at hu; rcases hu with rfl | rfl | rfl | rfl | rfl <;> rfl) rfl rfl ?_
 intro e1 bu fr ai
 clear d2
 replace ai : Box 28 10 em e1 bp #[(.string ag.1), (.slice cl ag.2.1.length cm), (.slice cn ag.2.2.1.length co), (.slice cp ag.2.2.2.1.length cq), (.slice cr ag.2.2.2.2.length ct)] := ai
 refine lN <| wS <| wR <| lV (.pointer ((some (⟨bi, 0, none⟩ : Addr)).map (·.add 1))) (rF (sz := 1) (off := 1) Tryz.underlying28 rfl Tryz.sizeOf23 (by decide) rfl rfl ⟨_, _, rfl⟩) ?_
 replace ab := ((ab.gr cu).gr bt).kp bu
 refine lV (.slice ak aa.2.1.length al) (r_ld Tryz.isAgg23 rfl ((ab.atN).nth (q := 1) (v := (.slice ak aa.2.1.length al)) rfl)) <| lV (.int .i64 (aa.2.1.length : Int)) (r_len Tryz.underlying23 rfl) ?_
 obtain ⟨e2, hm⟩ := cS hm
 refine l_make (col := em) (w := e1) (r := (Rep.row 40 (Rep.pair (Rep.pair Rep.bool (Rep.slice (Rep.int .u32))) (Rep.slice (Rep.int .u32))))) (n := aa.2.1.length) (x0 := ([] : List ((Bool × (List Int)) × (List Int)))) 11 rfl Tryz.underlying26 Tryz.t51 rfl rfl rfl rfl rfl rfl rfl e2.1 e2.2 rd_nilrow ?_
 intro en g0 fs bq eo
 refine l_alloc (col := fs) (v := (.slice none (([] : List (List ((Bool × (List Int)) × (List Int)))).length) 0)) 12 rfl Tryz.zeroValue26 ?_
 intro bv ft ep bj d3
 replace d3 : Box 26 12 ep ft bv #[(.slice none (([] : List (List ((Bool × (List Int)) × (List Int)))).length) 0)] := d3
 refine l_bstore (v := (.slice en ((List.replicate aa.2.1.length (([] : List ((Bool × (List Int)) × (List Int))) : (List ((Bool × (List Int)) × (List Int))))).length) aa.2.1.length)) d3 Tryz.sizeOf26 rfl rfl (by intro u hu; simp only [Value.cells, List.mem_cons, List.not_mem_nil, or_false] at hu; subst hu; rfl) rfl rfl ?_
 intro fu bk fv aj
 clear d3
 replace aj : Box 26 12 ep fu bv #[(.slice en ((List.replicate aa.2.1.length (([] : List ((Bool × (List Int)) × (List Int))) : (List ((Bool × (List Int)) × (List Int))))).length) aa.2.1.length)] := aj
 refine lN <| wS <| wS <| wR <| lV (.pointer ((some (⟨bi, 0, none⟩ : Addr)).map (·.add 1))) (rF (sz := 1) (off := 1) Tryz.underlying28 rfl Tryz.sizeOf23 (by decide) rfl rfl ⟨_, _, rfl⟩) ?_
 replace ab := ((ab.gr bq).gr bj).kp bk
 refine lV (.slice ak aa.2.1.length al) (r_ld Tryz.isAgg23 rfl ((ab.atN).nth (q := 1) (v := (.slice ak aa.2.1.length al)) rfl)) <| lV (.int .i64 (aa.2.1.length : Int)) (r_len Tryz.underlying23 rfl) <| lM (.int .i64 0) <| lN <| wB ?_
 replace h1 := (((((h1.gr cu).gr bt).kp bu).gr bq).gr bj).kp bk
 replace ae := (((((ae.gr cu).gr bt).kp bu).gr bq).gr bj).kp bk
 replace ac := (((((ac.gr cu).gr bt).kp bu).gr bq).gr bj).kp bk
 replace af := (((((af.gr cu).gr bt).kp bu).gr bq).gr bj).kp bk
 replace ad := (((((ad.gr cu).gr bt).kp bu).gr bq).gr bj).kp bk
 replace ah := (((((ah.gr cu).gr bt).kp bu).gr bq).gr bj).kp bk
 replace hst := (((((hst.grow cu).grow bt).kp bu fr).grow bq).grow bj).kp bk fv
 replace ay := ((((ay.gr bt).kp bu).gr bq).gr bj).kp bk
 replace az := ((((az.gr bt).kp bu).gr bq).gr bj).kp bk
 replace a0 := ((((a0.gr bt).kp bu).gr bq).gr bj).kp bk
 replace a2 := ((((a2.gr bt).kp bu).gr bq).gr bj).kp bk
 replace ai := ((ai.gr bq).gr bj).kp bk
 replace eo := (eo.gr bj).kp bk
 refine wloop (fun n f ba => ∃ (au : Col) (cv : Option Addr) (c6 : Nat) (cw : List (List ((Bool × (List Int)) × (List Int)))) (bb : Int) (c7 : Nat), c7 = n ∧ m_learn_Step_L1 N aa ap ag c7 cw bb = some r ∧ St w0 (col0 col) au ba ∧ Sl (Rep.slice (Rep.int .i64)) au ba a1 cap1 ap ∧ Own (Rep.row 40 (Rep.pair (Rep.pair Rep.bool (Rep.slice (Rep.int .u32))) (Rep.slice (Rep.int .u32)))) 51 11 au ba cv c6 cw ∧ Box 26 12 au ba bv #[(.slice cv cw.length c6)] ∧ Sl Rep.str au ba ak al aa.2.1 ∧ Sl (Rep.slice Rep.str) au ba an aq aa.2.2.1 ∧ Sl (Rep.slice (Rep.int .i64)) au ba aw ax aa.2.2.2.1 ∧ Sl (Rep.slice (Rep.pair (Rep.pair Rep.bool (Rep.slice (Rep.int .u32))) (Rep.slice (Rep.int .u32)))) au ba ao ar aa.2.2.2.2 ∧ Box 28 1 au ba bi #[(.string aa.1), (.slice ak aa.2.1.length al), (.slice an aa.2.2.1.length aq), (.slice aw aa.2.2.2.1.length ax), (.slice ao aa.2.2.2.2.length ar)] ∧ Box 28 2 au ba ce #[(.string (⟨#[]⟩)), (.slice none (([] : List ByteArray).length) 0), (.slice none (([] : List (List ByteArray)).length) 0), (.slice none (([] : List (List Int)).length) 0), (.slice none (([] : List (List ((Bool × (List Int)) × (List Int)))).length) 0)] ∧ Own Rep.str 9 6 au ba cl cm ag.2.1 ∧ Own (Rep.row 9 Rep.str) 23 7 au ba cn co ag.2.2.1 ∧ Own (Rep.row 3 (Rep.int .i64)) 33 8 au ba cp cq ag.2.2.2.1 ∧ Own (Rep.row 40 (Rep.pair (Rep.pair Rep.bool (Rep.row 114 (Rep.int .u32))) (Rep.row 114 (Rep.int .u32)))) 51 9 au ba cr ct ag.2.2.2.2 ∧ Box 28 10 au ba bp #[(.string ag.1), (.slice cl ag.2.1.length cm), (.slice cn ag.2.2.1.length co), (.slice cp ag.2.2.2.1.length cq), (.slice cr ag.2.2.2.2.length ct)] ∧ f 1 = (.slice a1 ap.length cap1) ∧ f 10 = (.pointer (some ⟨bv, 0, none⟩)) ∧ f 2 = (.pointer (some ⟨bi, 0, none⟩)) ∧ f 4 = (.pointer (some ⟨ce, 0, none⟩)) ∧ f 48 = (.int .i64 (aa.2.1.length : Int)) ∧ f 49 = (.int .i64 bb) ∧ f 9 = (.pointer (some ⟨bp, 0, none⟩)) ∧ f 1000000 = (enc [])) N ⟨ep, en, aa.2.1.length, (List.replicate aa.2.1.length (([] : List ((Bool × (List Int)) × (List Int))) : (List ((Bool × (List Int)) × (List Int))))), 0, N, rfl, hm, hst, h1, eo, aj, ae, ac, af, ad, ab, ah, ay, az, a0, a2, ai, rfl, rfl, rfl, rfl, rfl, rfl, rfl, rfl⟩ ?_
 clear hm; intro n f ba hI
 obtain ⟨au, cv, c6, cw, bb, c7, hn, hm, hst, h1, cx, aj, ae, ac, af, ad, ab, ah, ay, az, a0, a2, ai, hs1, hs10, hs2, hs4, hs48, hs49, hs9, hs1000000⟩ := hI
 subst hn
 refine .lD 1 hs1 <| .lD 10 hs10 <| .lD 2 hs2 <| .lD 4 hs4 <| .lD 48 hs48 <| .lD 49 hs49 <| .lD 9 hs9 <| .lD 1000000 hs1000000 ?_
 clear hs1 hs10 hs2 hs4 hs48 hs49 hs9 hs1000000
 cases c7 with
 | zero => rw [m_learn_Step_L1.eq_1] at hm; cases hm
 | succ c7 =>
  rw [m_learn_Step_L1.eq_2] at hm
  refine wS <| wR <| lV (.bool (decide (bb < (aa.2.1.length : Int)))) (r_lss bb (aa.2.1.length : Int) rfl rfl) <| lN <| wS ?_
  refine wcond (decide (bb < (aa.2.1.length : Int))) rfl (fun hb => ?_) (fun hb => ?_)
  ·rw [if_pos hb] at hm
   clear hb
   refine wK <| wS <| wB <| wS <| wR <| lM (.int .i64 bb) <| lA (.int .i64 bb) <| lN ?_
   refine wmix (col := au) [(0, 0), (1, 1), (2, 1), (3, 0), (4, 1), (5, 1), (6, 0), (7, 1), (8, 3), (9, 1), (10, 2)] (by kernel_rfl) (by kernel_rfl) ?_
   refine xv (v := (.slice cv cw.length c6)) rfl rfl (fun _ hC => r_ld Tryz.isAgg26 rfl (aj.at1.gr (Grow.of_below (col := au) hC.below))) ?_
   refine xu (v := (.int .i64 bb)) rfl rfl (fun _ => r_move rfl) ?_
   refine xu (v := (.pointer ((some (⟨bi, 0, none⟩ : Addr)).map (·.add 4)))) rfl rfl (fun _ => rF (sz := 1) (off := 4) Tryz.underlying28 rfl Tryz.sizeOf26 (by decide) rfl rfl ⟨_, _, rfl⟩) ?_
   refine xv (v := (.slice ao aa.2.2.2.2.length ar)) rfl rfl (fun _ hC => r_ld Tryz.isAgg26 rfl (((ab.atN).nth (q := 4) (v := (.slice ao aa.2.2.2.2.length ar)) rfl).gr (Grow.of_below (col := au) hC.below))) ?_
   refine xu (v := (.int .i64 bb)) rfl rfl (fun _ => r_move rfl) ?_
   obtain ⟨c8, d4, hm⟩ := bS hm
   refine xu (v := (sptr ao (Int.toNat bb * 1))) rfl rfl (fun _ => r_idx Tryz.underlying26 Tryz.sizeOf51 rfl rfl (at?_some d4).1 (at?_some d4).2.1 (ad.addr d4)) ?_
   obtain ⟨_, fw, fx⟩ := ad.atN d4
   obtain ⟨⟨fy, fz, rfl, g1⟩, _⟩ := fw
   refine xv (v := (.slice fy c8.length fz)) rfl rfl (fun _ hC => r_ld Tryz.isAgg51 rfl (fx.one.gr (Grow.of_below (col := au) hC.below))) ?_
   refine xu (v := (.int .i64 (c8.length : Int))) rfl rfl (fun _ => r_len Tryz.underlying51 rfl) ?_
   refine xe rfl rfl ?_
   intro e3 hC0
   have hC : Grow au ba au e3 := .of_below hC0.below
   obtain ⟨e4, hm⟩ := cS hm
   refine l_make (col := au) (w := e3) (r := (Rep.pair (Rep.pair Rep.bool (Rep.slice (Rep.int .u32))) (Rep.slice (Rep.int .u32)))) (n := c8.length) (x0 := ((false, ([] : List Int)), ([] : List Int))) 13 rfl Tryz.underlying51 Tryz.t40 rfl rfl rfl rfl rfl rfl rfl e4.1 e4.2 (rd_pairI (rd_pairI (rd_bool false) rd_nilslice) rd_nilslice) ?_
   intro f0 e5 d5 bd d6
   refine lN ⟨fun w' => Grow d5 e5 d5 w', Grow.refl _ _, fun _ _ h => cls hC0 bd h, ?_⟩
   obtain ⟨g2, d7, hm⟩ := bS hm
   replace cx := (cx.gr hC).gr bd
   refine xu (v := (sptr cv (Int.toNat bb * 1))) rfl rfl (fun _ => r_idx Tryz.underlying26 Tryz.sizeOf51 rfl rfl (at?_some d7).1 (at?_some d7).2.1 (cx.addr d7)) ?_
   refine xe rfl rfl ?_
   intro f1 hC0
   replace h1 := (h1.gr hC).gr bd
   replace ae := (ae.gr hC).gr bd
   replace ac := (ac.gr hC).gr bd
   replace af := (af.gr hC).gr bd
   replace ad := (ad.gr hC).gr bd
   replace ay := (ay.gr hC).gr bd
   replace az := (az.gr hC).gr bd
   replace a0 := (a0.gr hC).gr bd
   replace a2 := (a2.gr hC).gr bd
   replace aj := (aj.gr hC).gr bd
   replace ab := (ab.gr hC).gr bd
   replace ah := (ah.gr hC).gr bd
   replace ai := (ai.gr hC).gr bd
   replace hst := (hst.grow hC).grow bd
   have hC : Grow d5 e5 d5 f1 := .of_below hC0.below
   obtain ⟨d8, d9, hm⟩ := bS hm
   have d9 : d8 = cw.set (Int.toNat bb) (List.replicate c8.length (((false, ([] : List Int)), ([] : List Int)) : ((Bool × (List Int)) × (List Int)))) := (Option.some.inj d9).symm
   replace cx := cx.gr hC
   replace d6 := d6.gr hC
   refine l_storeM (x1 := List.replicate c8.length (((false, ([] : List Int)), ([] : List Int)) : ((Bool × (List Int)) × (List Int)))) (v := (.slice f0 ((List.replicate c8.length (((false, ([] : List Int)), ([] : List Int)) : ((Bool × (List Int)) × (List Int)))).length) c8.length)) cx d7 rfl Tryz.sizeOf51 d6.has rfl rfl (by decide) ?_
   intro eq dj bl ea
   rw [← d9] at ea
   clear d6
   replace aj := (aj.gr hC).kpp bl
   replace aj : Box 26 12 dj eq bv #[(.slice cv d8.length c6)] := by rw [← (show cw.length = d8.length by rw [d9, List.length_set])]; exact aj
   clear cx
   refine lN ⟨fun w' => Grow dj eq dj w', Grow.refl _ _, fun h => absurd h (by decide), ?_⟩
   refine xnil ?_
   replace h1 := (h1.gr hC).kpp bl
   replace ae := (ae.gr hC).kpp bl
   replace ac := (ac.gr hC).kpp bl
   replace af := (af.gr hC).kpp bl
   replace ad := (ad.gr hC).kpp bl
   replace ay := (ay.gr hC).kpp bl
   replace az := (az.gr hC).kpp bl
   replace a0 := (a0.gr hC).kpp bl
   replace a2 := (a2.gr hC).kpp bl
   replace ab := (ab.gr hC).kpp bl
   replace ah := (ah.gr hC).kpp bl
   replace ai := (ai.gr hC).kpp bl
   replace hst := (hst.grow hC).kpp bl
   intro f2 hC
   replace hC : Grow dj eq dj f2 := .of_below hC.below
   refine wR <| lV (.int .i64 (IntKind.i64.wrap (bb + 1))) (r_add bb 1 rfl rfl) <| lM (.int .i64 (IntKind.i64.wrap (bb + 1))) <| lN ?_
   replace h1 := h1.gr hC
   replace ea := ea.gr hC
   replace ae := ae.gr hC
   replace ac := ac.gr hC
   replace af := af.gr hC
   replace ad := ad.gr hC
   replace ay := ay.gr hC
   replace az := az.gr hC
   replace a0 := a0.gr hC
   replace a2 := a2.gr hC
   replace aj := aj.gr hC
   replace ab := ab.gr hC
   replace ah := ah.gr hC
   replace ai := ai.gr hC
   replace hst := hst.grow hC
   exact ⟨c7, by omega, ⟨dj, cv, c6, d8, (IntKind.i64.wrap (bb + 1)), c7, rfl, hm, hst, h1, ea, aj, ae, ac, af, ad, ab, ah, ay, az, a0, a2, ai, rfl, rfl, rfl, rfl, rfl, rfl, rfl, rfl⟩⟩
  rw [if_neg (by rw [hb]; decide)] at hm
  clear hb
  refine wexit (inB_hit ?_)
  refine wS <| wS <| wR <| lM (.slice a1 ap.length cap1) <| lV (.int .i64 (ap.length : Int)) (r_len Tryz.underlying34 rfl) <| lM (.int .i64 0) <| lN <| wB ?_
  refine wloop (fun n f be => ∃ (a7 : Col) (cy : Option Addr) (c9 : Nat) (cf : List (List ((Bool × (List Int)) × (List Int)))) (bm : Nat) (dq : List (List Int)), n = dq.length ∧ ap.drop bm = dq ∧ m_learn_Step_L2 N aa ag dq cf = some r ∧ St w0 (col0 col) a7 be ∧ Own (Rep.row 40 (Rep.pair (Rep.pair Rep.bool (Rep.slice (Rep.int .u32))) (Rep.slice (Rep.int .u32)))) 51 11 a7 be cy c9 cf ∧ Box 26 12 a7 be bv #[(.slice cy cf.length c9)] ∧ Sl Rep.str a7 be ak al aa.2.1 ∧ Sl (Rep.slice Rep.str) a7 be an aq aa.2.2.1 ∧ Sl (Rep.slice (Rep.int .i64)) a7 be aw ax aa.2.2.2.1 ∧ Sl (Rep.slice (Rep.pair (Rep.pair Rep.bool (Rep.slice (Rep.int .u32))) (Rep.slice (Rep.int .u32)))) a7 be ao ar aa.2.2.2.2 ∧ Box 28 1 a7 be bi #[(.string aa.1), (.slice ak aa.2.1.length al), (.slice an aa.2.2.1.length aq), (.slice aw aa.2.2.2.1.length ax), (.slice ao aa.2.2.2.2.length ar)] ∧ Box 28 2 a7 be ce #[(.string (⟨#[]⟩)), (.slice none (([] : List ByteArray).length) 0), (.slice none (([] : List (List ByteArray)).length) 0), (.slice none (([] : List (List Int)).length) 0), (.slice none (([] : List (List ((Bool × (List Int)) × (List Int)))).length) 0)] ∧ Sl (Rep.slice (Rep.int .i64)) a7 be a1 cap1 ap ∧ Own Rep.str 9 6 a7 be cl cm ag.2.1 ∧ Own (Rep.row 9 Rep.str) 23 7 a7 be cn co ag.2.2.1 ∧ Own (Rep.row 3 (Rep.int .i64)) 33 8 a7 be cp cq ag.2.2.2.1 ∧ Own (Rep.row 40 (Rep.pair (Rep.pair Rep.bool (Rep.row 114 (Rep.int .u32))) (Rep.row 114 (Rep.int .u32)))) 51 9 a7 be cr ct ag.2.2.2.2 ∧ Box 28 10 a7 be bp #[(.string ag.1), (.slice cl ag.2.1.length cm), (.slice cn ag.2.2.1.length co), (.slice cp ag.2.2.2.1.length cq), (.slice cr ag.2.2.2.2.length ct)] ∧ f 65 = (.int .i64 (bm : Int)) ∧ f 10 = (.pointer (some ⟨bv, 0, none⟩)) ∧ f 2 = (.pointer (some ⟨bi, 0, none⟩)) ∧ f 4 = (.pointer (some ⟨ce, 0, none⟩)) ∧ f 63 = (.slice a1 ap.length cap1) ∧ f 64 = (.int .i64 (ap.length : Int)) ∧ f 9 = (.pointer (some ⟨bp, 0, none⟩)) ∧ f 1000000 = (enc [])) ap.length ⟨au, cv, c6, cw, 0, ap, rfl, rfl, hm, hst, cx, aj, ae, ac, af, ad, ab, ah, h1, ay, az, a0, a2, ai, rfl, rfl, rfl, rfl, rfl, rfl, rfl, rfl⟩ ?_
  clear hm; intro n f be hI
  obtain ⟨a7, cy, c9, cf, bm, dq, hn, hl, hm, hst, a4, aj, ae, ac, af, ad, ab, ah, h1, ay, az, a0, a2, ai, hs65, hs10, hs2, hs4, hs63, hs64, hs9, hs1000000⟩ := hI
  subst hn
  refine .lD 65 hs65 <| .lD 10 hs10 <| .lD 2 hs2 <| .lD 4 hs4 <| .lD 63 hs63 <| .lD 64 hs64 <| .lD 9 hs9 <| .lD 1000000 hs1000000 ?_
  clear hs65 hs10 hs2 hs4 hs63 hs64 hs9 hs1000000
  cases dq with
  | nil =>
   have hk : ¬ ((bm : Int) < (ap.length : Int)) := by have := List.drop_eq_nil_iff.1 hl; omega
   have hkb := decide_eq_false hk
   rw [m_learn_Step_L2.eq_1] at hm
   refine wS <| wR <| lV (.bool (decide ((bm : Int) < (ap.length : Int)))) (r_lss (bm : Int) (ap.length : Int) rfl rfl) <| lN <| wS ?_
   refine wcondF (congrArg Value.bool hkb) ?_
   refine wexit (inB_hit ?_)
   refine wS <| wS <| wR <| lV (.pointer ((some (⟨bi, 0, none⟩ : Addr)).map (·.add 1))) (rF (sz := 1) (off := 1) Tryz.underlying28 rfl Tryz.sizeOf23 (by decide) rfl rfl ⟨_, _, rfl⟩) <| lV (.slice ak aa.2.1.length al) (r_ld Tryz.isAgg23 rfl ((ab.atN).nth (q := 1) (v := (.slice ak aa.2.1.length al)) rfl)) <| lV (.int .i64 (aa.2.1.length : Int)) (r_len Tryz.underlying23 rfl) <| lM (.int .i64 0) <| lN <| wB ?_
   replace a4 := (a4).toSlF (Froz.row (Froz.pair (Froz.pair Froz.bool Froz.slice) Froz.slice))
   replace ae := ae.froz 11
   replace ac := ac.froz 11
   replace af := af.froz 11
   replace ad := ad.froz 11
   replace ay := ay.froz 11 (by decide)
   replace az := az.froz 11 (by decide)
   replace a0 := a0.froz 11 (by decide)
   replace a2 := a2.froz 11 (by decide)
   replace aj := aj.froz 11 (by decide)
   replace ab := ab.froz 11 (by decide)
   replace ah := ah.froz 11 (by decide)
   replace ai := ai.froz 11 (by decide)
   replace hst := hst.froz 11 (by decide) (by decide)
   refine wloop (fun n f bc => ∃ (a5 : Col) (av : Int) (cg : ByteArray) (b1 : Option Addr) (b2 : Nat) (b3 : List ByteArray) (b4 : Option Addr) (b5 : Nat) (b6 : List (List ByteArray)) (b7 : Option Addr) (b8 : Nat) (b9 : List (List Int)) (bh : Option Addr) (bn : Nat) (bf : List (List ((Bool × (List Int)) × (List Int)))) (da : Nat), da = n ∧ m_learn_Step_L3 N aa cf da av cg b3 b6 b9 bf = some r ∧ St w0 (col0 col) a5 bc ∧ Sl (Rep.slice (Rep.pair (Rep.pair Rep.bool (Rep.slice (Rep.int .u32))) (Rep.slice (Rep.int .u32)))) a5 bc cy c9 cf ∧ Box 26 12 a5 bc bv #[(.slice cy cf.length c9)] ∧ Sl Rep.str a5 bc ak al aa.2.1 ∧ Sl (Rep.slice Rep.str) a5 bc an aq aa.2.2.1 ∧ Sl (Rep.slice (Rep.int .i64)) a5 bc aw ax aa.2.2.2.1 ∧ Sl (Rep.slice (Rep.pair (Rep.pair Rep.bool (Rep.slice (Rep.int .u32))) (Rep.slice (Rep.int .u32)))) a5 bc ao ar aa.2.2.2.2 ∧ Box 28 1 a5 bc bi #[(.string aa.1), (.slice ak aa.2.1.length al), (.slice an aa.2.2.1.length aq), (.slice aw aa.2.2.2.1.length ax), (.slice ao aa.2.2.2.2.length ar)] ∧ Box 28 2 a5 bc ce #[(.string (⟨#[]⟩)), (.slice none (([] : List ByteArray).length) 0), (.slice none (([] : List (List ByteArray)).length) 0), (.slice none (([] : List (List Int)).length) 0), (.slice none (([] : List (List ((Bool × (List Int)) × (List Int)))).length) 0)] ∧ Own Rep.str 9 6 a5 bc b1 b2 b3 ∧ Own (Rep.row 9 Rep.str) 23 7 a5 bc b4 b5 b6 ∧ Own (Rep.row 3 (Rep.int .i64)) 33 8 a5 bc b7 b8 b9 ∧ Own (Rep.row 40 (Rep.pair (Rep.pair Rep.bool (Rep.row 114 (Rep.int .u32))) (Rep.row 114 (Rep.int .u32)))) 51 9 a5 bc bh bn bf ∧ Box 28 10 a5 bc bp #[(.string cg), (.slice b1 b3.length b2), (.slice b4 b6.length b5), (.slice b7 b9.length b8), (.slice bh bf.length bn)] ∧ f 10 = (.pointer (some ⟨bv, 0, none⟩)) ∧ f 2 = (.pointer (some ⟨bi, 0, none⟩)) ∧ f 4 = (.pointer (some ⟨ce, 0, none⟩)) ∧ f 83 = (.int .i64 (aa.2.1.length : Int)) ∧ f 84 = (.int .i64 av) ∧ f 9 = (.pointer (some ⟨bp, 0, none⟩)) ∧ f 1000000 = (enc [])) N ⟨(frC 11 a7), 0, ag.1, cl, cm, ag.2.1, cn, co, ag.2.2.1, cp, cq, ag.2.2.2.1, cr, ct, ag.2.2.2.2, N, rfl, hm, hst, a4, aj, ae, ac, af, ad, ab, ah, ay, az, a0, a2, ai, rfl, rfl, rfl, rfl, rfl, rfl, rfl⟩ ?_
   clear hm; intro n f bc hI
   obtain ⟨a5, av, cg, b1, b2, b3, b4, b5, b6, b7, b8, b9, bh, bn, bf, da, hn, hm, hst, a4, aj, ae, ac, af, ad, ab, ah, ca, cb, cc, dk, ai, hs10, hs2, hs4, hs83, hs84, hs9, hs1000000⟩ := hI
   subst hn
   refine .lD 10 hs10 <| .lD 2 hs2 <| .lD 4 hs4 <| .lD 83 hs83 <| .lD 84 hs84 <| .lD 9 hs9 <| .lD 1000000 hs1000000 ?_
   clear hs10 hs2 hs4 hs83 hs84 hs9 hs1000000
   cases da with
   | zero => rw [m_learn_Step_L3.eq_1] at hm; cases hm
   | succ da =>
    rw [m_learn_Step_L3.eq_2] at hm
    refine wS <| wR <| lV (.bool (decide (av < (aa.2.1.length : Int)))) (r_lss av (aa.2.1.length : Int) rfl rfl) <| lN <| wS ?_
    refine wcond (decide (av < (aa.2.1.length : Int))) rfl (fun hb => ?_) (fun hb => ?_)
    ·rw [if_pos hb] at hm
     clear hb
     refine wK <| wS <| wB <| wS <| wR <| lM (.int .i64 av) <| lA (.int .i64 av) <| lN ?_
     refine wmix (col := a5) [(0, 1), (1, 0), (2, 1), (3, 1), (4, 0), (5, 0), (6, 1), (7, 1), (8, 0), (9, 1), (10, 0), (11, 1), (12, 1), (13, 0), (14, 1), (15, 2)] (by kernel_rfl) (by kernel_rfl) ?_
     refine xu (v := (.pointer ((some (⟨bp, 0, none⟩ : Addr)).map (·.add 4)))) rfl rfl (fun _ => rF (sz := 1) (off := 4) Tryz.underlying28 rfl Tryz.sizeOf26 (by decide) rfl rfl ⟨_, _, rfl⟩) ?_
     refine xv (v := (.slice bh bf.length bn)) rfl rfl (fun _ hC => r_ld Tryz.isAgg26 rfl (((ai.atN).nth (q := 4) (v := (.slice bh bf.length bn)) rfl).gr (Grow.of_below (col := a5) hC.below))) ?_
     refine xu (v := (.int .i64 av)) rfl rfl (fun _ => r_move rfl) ?_
     obtain ⟨dr, eb, hm⟩ := bS hm
     refine xu (v := (sptr bh (Int.toNat av * 1))) rfl rfl (fun _ => r_idx Tryz.underlying26 Tryz.sizeOf51 rfl rfl (at?_some eb).1 (at?_some eb).2.1 (dk.addr eb)) ?_
     obtain ⟨_, ch, br, ci, f3⟩ := dk.open_ 14 (by decide) eb
     obtain ⟨dl, dm, rfl, ec⟩ := f3.row
     clear dk
     replace ci : Hole (Rep.row 40 (Rep.pair (Rep.pair Rep.bool (Rep.row 114 (Rep.int .u32))) (Rep.row 114 (Rep.int .u32)))) 51 9 ch bc bh bn bf (Int.toNat av) [(.slice dl dr.length dm)] := ci
     refine xv (v := (.slice dl dr.length dm)) rfl rfl (fun _ hC => r_ld Tryz.isAgg51 rfl (ci.atN.one.gr (Grow.of_below (col := ch) hC.below))) ?_
     replace aj := aj.kpp br
     refine xv (v := (.slice cy cf.length c9)) rfl rfl (fun _ hC => r_ld Tryz.isAgg26 rfl (aj.at1.gr (Grow.of_below (col := ch) hC.below))) ?_
     refine xu (v := (.int .i64 av)) rfl rfl (fun _ => r_move rfl) ?_
     obtain ⟨e6, ed, hm⟩ := bS hm
     replace a4 := a4.kpp br
     refine xu (v := (sptr cy (Int.toNat av * 1))) rfl rfl (fun _ => r_idx Tryz.underlying26 Tryz.sizeOf51 rfl rfl (at?_some ed).1 (at?_some ed).2.1 (a4.addr ed)) ?_
     obtain ⟨_, f4, f5⟩ := a4.atN ed
     obtain ⟨⟨e7, e8, rfl, er⟩, _⟩ := f4
     refine xv (v := (.slice e7 e6.length e8)) rfl rfl (fun _ hC => r_ld Tryz.isAgg51 rfl (f5.one.gr (Grow.of_below (col := ch) hC.below))) ?_
     refine xu (v := (.pointer ((some (⟨bi, 0, none⟩ : Addr)).map (·.add 2)))) rfl rfl (fun _ => rF (sz := 1) (off := 2) Tryz.underlying28 rfl Tryz.sizeOf24 (by decide) rfl rfl ⟨_, _, rfl⟩) ?_
     replace ab := ab.kpp br
     refine xv (v := (.slice an aa.2.2.1.length aq)) rfl rfl (fun _ hC => r_ld Tryz.isAgg24 rfl (((ab.atN).nth (q := 2) (v := (.slice an aa.2.2.1.length aq)) rfl).gr (Grow.of_below (col := ch) hC.below))) ?_
     refine xu (v := (.int .i64 av)) rfl rfl (fun _ => r_move rfl) ?_
     obtain ⟨es, ee, hm⟩ := bS hm
     replace ac := ac.kpp br
     refine xu (v := (sptr an (Int.toNat av * 1))) rfl rfl (fun _ => r_idx Tryz.underlying24 Tryz.sizeOf23 rfl rfl (at?_some ee).1 (at?_some ee).2.1 (ac.addr ee)) ?_
     obtain ⟨_, f6, f7⟩ := ac.atN ee
     obtain ⟨⟨f8, f9, rfl, g3⟩, _⟩ := f6
     refine xv (v := (.slice f8 es.length f9)) rfl rfl (fun _ hC => r_ld Tryz.isAgg23 rfl (f7.one.gr (Grow.of_below (col := ch) hC.below))) ?_
     refine xu (v := (.int .i64 (es.length : Int))) rfl rfl (fun _ => r_len Tryz.underlying23 rfl) ?_
     refine xe rfl rfl ?_
     intro ga hC0
     have hC : Grow ch bc ch ga := .of_below hC0.below
     obtain ⟨cz, gb, hm⟩ := bS hm
     replace ec := ec.gr hC
     replace er := er.gr hC
     refine lc rfl rfl (r_call3 Tryz.call29 rfl rfl rfl) (c_learn_shares N ch _ 14 rfl dl dm dr e7 e8 e6 (es.length : Int) ec er cz gb) ?_
     rintro _ ds ⟨c0, rfl, bo, gc, e9⟩
     refine ⟨_, rfl, ?_⟩
     clear ec
     refine .ld (d := 91) (v := (.slice dl cz.length dm)) (congrArg (fun n => Value.slice dl n dm) (show dr.length = cz.length from e9.symm)) ?_
     replace ai := ((ai.kpp br).gr hC).kpp bo
     replace ai : Box 28 10 c0 ds bp #[(.string cg), (.slice b1 b3.length b2), (.slice b4 b6.length b5), (.slice b7 b9.length b8), (.slice bh bf.length bn)] := by rw []; exact ai
     replace ci := (ci.gr hC).kpp bo
     replace ci : Hole (Rep.row 40 (Rep.pair (Rep.pair Rep.bool (Rep.row 114 (Rep.int .u32))) (Rep.row 114 (Rep.int .u32)))) 51 9 c0 ds bh bn bf (Int.toNat av) [(.slice dl cz.length dm)] := by rw [← (show dr.length = cz.length from e9.symm)]; exact ci
     refine lN ⟨fun w' => Grow c0 ds c0 w', Grow.refl _ _, fun h => absurd h (by decide), ?_⟩
     have et := ci.close gc.has (by decide) (by decide)
     replace a4 := (a4.gr hC).kpp bo
     replace a4 := a4.recol 14 9 (by decide)
     replace ae := ((ae.kpp br).gr hC).kpp bo
     replace ae := ae.recol 14 9 (by decide)
     replace ac := (ac.gr hC).kpp bo
     replace ac := ac.recol 14 9 (by decide)
     replace af := ((af.kpp br).gr hC).kpp bo
     replace af := af.recol 14 9 (by decide)
     replace ad := ((ad.kpp br).gr hC).kpp bo
     replace ad := ad.recol 14 9 (by decide)
     replace ca := ((ca.kpp br).gr hC).kpp bo
     replace ca := ca.recol 14 9 (by decide)
     replace cb := ((cb.kpp br).gr hC).kpp bo
     replace cb := cb.recol 14 9 (by decide)
     replace cc := ((cc.kpp br).gr hC).kpp bo
     replace cc := cc.recol 14 9 (by decide)
     replace aj := (aj.gr hC).kpp bo
     replace aj := aj.recol 14 9 (by decide)
     replace ab := (ab.gr hC).kpp bo
     replace ab := ab.recol 14 9 (by decide)
     replace ah := ((ah.kpp br).gr hC).kpp bo
     replace ah := ah.recol 14 9 (by decide)
     replace ai := ai.recol 14 9 (by decide)
     replace hst := ((hst.kpp br).grow hC).kpp bo
     replace hst := hst.recol 14 9 (by decide) (by decide)
     clear ci
     replace ai : Box 28 10 (rcC 14 9 c0) ds bp #[(.string cg), (.slice b1 b3.length b2), (.slice b4 b6.length b5), (.slice b7 b9.length b8), (.slice bh ((bf.set (Int.toNat av) cz).length) bn)] := by rw [← (show bf.length = (bf.set (Int.toNat av) cz).length by simp only [List.length_set])]; exact ai
     refine xnil ?_
     intro gd hC
     replace hC : Grow (rcC 14 9 c0) ds (rcC 14 9 c0) gd := .of_below hC.below
     refine wR <| lV (.int .i64 (IntKind.i64.wrap (av + 1))) (r_add av 1 rfl rfl) <| lM (.int .i64 (IntKind.i64.wrap (av + 1))) <| lN ?_
     replace a4 := a4.gr hC
     replace ae := ae.gr hC
     replace ac := ac.gr hC
     replace af := af.gr hC
     replace ad := ad.gr hC
     replace ca := ca.gr hC
     replace cb := cb.gr hC
     replace cc := cc.gr hC
     replace et := et.gr hC
     replace aj := aj.gr hC
     replace ab := ab.gr hC
     replace ah := ah.gr hC
     replace ai := ai.gr hC
     replace hst := hst.grow hC
     exact ⟨da, by omega, ⟨(rcC 14 9 c0), (IntKind.i64.wrap (av + 1)), cg, b1, b2, b3, b4, b5, b6, b7, b8, b9, bh, bn, (bf.set (Int.toNat av) cz), da, rfl, hm, hst, a4, aj, ae, ac, af, ad, ab, ah, ca, cb, cc, et, ai, rfl, rfl, rfl, rfl, rfl, rfl, rfl⟩⟩
    rw [if_neg (by rw [hb]; decide)] at hm
    clear hb
    refine wexit (inB_hit ?_)
    refine wS <| wR <| lV (.agg #[(.string cg), (.slice b1 b3.length b2), (.slice b4 b6.length b5), (.slice b7 b9.length b8), (.slice bh bf.length bn)]) (r_ldN Tryz.isAgg28 Tryz.sizeOf28 rfl rfl ai.atN) ?_
    refine l_bstore (v := (.agg #[(.string cg), (.slice b1 b3.length b2), (.slice b4 b6.length b5), (.slice b7 b9.length b8), (.slice bh bf.length bn)])) ah Tryz.sizeOf28 rfl rfl (by intro u hu; simp only [Value.cells, List.mem_cons, List.not_mem_nil, or_false] at hu; rcases hu with rfl | rfl | rfl | rfl | rfl <;> rfl) rfl rfl ?_
    intro ge dt gf eu
    clear ah
    replace eu : Box 28 2 a5 ge ce #[(.string cg), (.slice b1 b3.length b2), (.slice b4 b6.length b5), (.slice b7 b9.length b8), (.slice bh bf.length bn)] := eu
    refine lA (.int .i64 0) <| lN ?_
    refine wret ?_
    cases hm
    replace ca := ca.kp dt
    replace cb := cb.kp dt
    replace cc := cc.kp dt
    replace dk := dk.kp dt
    replace hst := hst.kp dt gf
    exact ⟨rfl, _, res_at rfl rfl Tryz.isAgg28 Tryz.sizeOf28 rfl rfl eu.atN rfl rfl, colF w0.heap.size col a5 (fun n => bif Nat.beq n 6 then c1 else bif Nat.beq n 7 then c2 else bif Nat.beq n 8 then c3 else bif Nat.beq n 9 then c4 else 0), b1, b2, b4, b5, b7, b8, bh, bn, rfl, hst.fin (fun n => bif Nat.beq n 6 then c1 else bif Nat.beq n 7 then c2 else bif Nat.beq n 8 then c3 else bif Nat.beq n 9 then c4 else 0), hst.finOwn (g := (fun n => bif Nat.beq n 6 then c1 else bif Nat.beq n 7 then c2 else bif Nat.beq n 8 then c3 else bif Nat.beq n 9 then c4 else 0)) rfl ca (by decide) (by decide) rfl, hst.finOwn (g := (fun n => bif Nat.beq n 6 then c1 else bif Nat.beq n 7 then c2 else bif Nat.beq n 8 then c3 else bif Nat.beq n 9 then c4 else 0)) rfl cb (by decide) (by decide) rfl, hst.finOwn (g := (fun n => bif Nat.beq n 6 then c1 else bif Nat.beq n 7 then c2 else bif Nat.beq n 8 then c3 else bif Nat.beq n 9 then c4 else 0)) rfl cc (by decide) (by decide) rfl, hst.finOwn (g := (fun n => bif Nat.beq n 6 then c1 else bif Nat.beq n 7 then c2 else bif Nat.beq n 8 then c3 else bif Nat.beq n 9 then c4 else 0)) rfl dk (by decide) (by decide) rfl⟩
  | cons cd fa =>
   obtain ⟨hat, hl2_L2, hlt_L2⟩ := drop_get hl
   have hk : (bm : Int) < (ap.length : Int) := by omega
   have hkb := decide_eq_true hk
   rw [m_learn_Step_L2.eq_2] at hm
   refine wS <| wR <| lV (.bool (decide ((bm : Int) < (ap.length : Int)))) (r_lss (bm : Int) (ap.length : Int) rfl rfl) <| lN <| wS ?_
   refine wcondT (congrArg Value.bool hkb) ?_
   refine wK <| wS <| wB <| wS <| wR ?_
   refine lV (sptr a1 (Int.toNat (bm : Int) * 1)) (r_idx Tryz.underlying34 Tryz.sizeOf33 rfl rfl (at?_some hat).1 (at?_some hat).2.1 (h1.addr hat)) ?_
   obtain ⟨_, gg, gh⟩ := h1.atN hat
   obtain ⟨⟨db, dc, rfl, ef⟩, _⟩ := gg
   refine lV (.slice db cd.length dc) (r_ld Tryz.isAgg33 rfl gh.one) <| lA (.slice db cd.length dc) <| lN <| wS <| wR <| lV (.agg #[(.string aa.1), (.slice ak aa.2.1.length al), (.slice an aa.2.2.1.length aq), (.slice aw aa.2.2.2.1.length ax), (.slice ao aa.2.2.2.2.length ar)]) (r_ldN Tryz.isAgg28 Tryz.sizeOf28 rfl rfl ab.atN) <| lM (.slice db cd.length dc) ?_
   refine l_lit (col := a7) (r := (Rep.slice (Rep.int .i64))) (xs := [cd]) [(.slice db cd.length dc)] 15 rfl Tryz.underlying34 el33_11 rfl rfl rfl rfl rfl rfl (by intro v hv; simp only [List.mem_cons, List.not_mem_nil, or_false] at hv; subst hv; rfl) (RowsH.ofF (Rows.consF (r := (Rep.slice (Rep.int .i64))) (x := cd) (cs := [(.slice db cd.length dc)]) (rd_slI ef) Rows.nil0)) ?_
   intro gi gj du bg gk
   obtain ⟨a6, gl, hm⟩ := bS hm
   replace ae := ae.gr bg
   replace ac := ac.gr bg
   replace af := af.gr bg
   replace ad := ad.gr bg
   refine lc rfl rfl (r_call2 Tryz.call31 rfl rfl) (c_data_Chance N 16 17 (frC 15 du) _ ak al an aq aw ax ao ar (aa.1, aa.2.1, aa.2.2.1, aa.2.2.2.1, aa.2.2.2.2) gi 1 [cd] (ae.froz 15) (ac.froz 15) (af.froz 15) (ad.froz 15) (gk.toSlF Froz.slice) a6 gl) ?_
   rintro _ g4 ⟨gm, dv, dw, dx, dy, rfl, a3, dz, d0⟩
   refine ⟨_, rfl, ?_⟩
   replace dz := dz.thaw (flat_int .u32) a3 ((Fz.refl (col := du)).froz 15) (by decide)
   replace d0 := d0.thaw (flat_int .u32) a3 ((Fz.refl (col := du)).froz 15) (by decide)
   replace a3 := a3.thawR (col := du)
   generalize colR gj.heap.size du gm = gn at *
   refine lM (.tuple #[(.agg #[(.bool a6.1.1.1), (.slice dv a6.1.1.2.length dw), (.slice dx a6.1.2.length dy)]), (.int .i64 a6.2)]) <| lV (.agg #[(.bool a6.1.1.1), (.slice dv a6.1.1.2.length dw), (.slice dx a6.1.2.length dy)]) (r_extract rfl rfl) <| lV (.int .i64 a6.2) (r_extract rfl rfl) ?_
   refine l_alloc (col := gn) (v := (.agg #[(.bool false), (.slice none (([] : List Int).length) 0), (.slice none (([] : List Int).length) 0)])) 18 rfl Tryz.zeroValue40 ?_
   intro eg go ev a8 eh
   replace eh : Box 40 18 ev go eg #[(.bool false), (.slice none (([] : List Int).length) 0), (.slice none (([] : List Int).length) 0)] := eh
   refine l_bstore (v := (.agg #[(.bool a6.1.1.1), (.slice dv a6.1.1.2.length dw), (.slice dx a6.1.2.length dy)])) eh Tryz.sizeOf40 rfl rfl (by intro u hu; simp only [Value.cells, List.mem_cons, List.not_mem_nil, or_false] at hu; rcases hu with rfl | rfl | rfl <;> rfl) rfl rfl ?_
   intro gp a9 gq ew
   clear eh
   replace ew : Box 40 18 ev gp eg #[(.bool a6.1.1.1), (.slice dv a6.1.1.2.length dw), (.slice dx a6.1.2.length dy)] := ew
   refine lA (.int .i64 a6.2) <| lN <| wR ?_
   replace ab := (((ab.gr bg).gr a3).gr a8).kp a9
   refine lV (.agg #[(.string aa.1), (.slice ak aa.2.1.length al), (.slice an aa.2.2.1.length aq), (.slice aw aa.2.2.2.1.length ax), (.slice ao aa.2.2.2.2.length ar)]) (r_ldN Tryz.isAgg28 Tryz.sizeOf28 rfl rfl ab.atN) <| lM (.slice db cd.length dc) <| lV (.func (.func 33) #[] #[(.pointer (some ⟨bi, 0, none⟩)), (.pointer (some ⟨bp, 0, none⟩)), (.pointer (some ⟨eg, 0, none⟩)), (.pointer (some ⟨bv, 0, none⟩))]) (r_func4 rfl rfl rfl rfl) ?_
   obtain ⟨fb, gs, hm⟩ := bS hm
   replace a4 := (((a4.gr bg).gr a3).gr a8).kp a9
   replace ay := (((ay.gr bg).gr a3).gr a8).kp a9
   replace az := (((az.gr bg).gr a3).gr a8).kp a9
   replace a0 := (((a0.gr bg).gr a3).gr a8).kp a9
   replace a2 := (((a2.gr bg).gr a3).gr a8).kp a9
   replace ef := (((ef.gr bg).gr a3).gr a8).kp a9
   replace aj := (((aj.gr bg).gr a3).gr a8).kp a9
   replace ai := (((ai.gr bg).gr a3).gr a8).kp a9
   replace ae := ((ae.gr a3).gr a8).kp a9
   replace ac := ((ac.gr a3).gr a8).kp a9
   replace af := ((af.gr a3).gr a8).kp a9
   replace ad := ((ad.gr a3).gr a8).kp a9
   replace dz := (dz.gr a8).kp a9
   replace d0 := (d0.gr a8).kp a9
   refine lc rfl rfl (r_call3 Tryz.call32 rfl rfl rfl) (c_learn_each_v2c33xssssxooooxooxr N ev _ 1 10 6 7 8 9 18 16 17 12 11 rfl ⟨by decide, rfl⟩ ⟨by decide, rfl⟩ ⟨by decide, rfl⟩ ⟨by decide, rfl⟩ ⟨by decide, rfl⟩ ⟨by decide, rfl⟩ ⟨by decide, rfl⟩ ⟨by decide, rfl⟩ ⟨by decide, rfl⟩ ak al an aq aw ax ao ar (aa.1, aa.2.1, aa.2.2.1, aa.2.2.2.1, aa.2.2.2.2) db dc cd bi (aa.1, aa.2.1, aa.2.2.1, aa.2.2.2.1, aa.2.2.2.2) ak al an aq aw ax ao ar bp (ag.1, ag.2.1, ag.2.2.1, ag.2.2.2.1, ag.2.2.2.2) cl cm cn co cp cq cr ct eg ((a6.1.1.1, a6.1.1.2), a6.1.2) dv dw dx dy bv cf cy c9 ae ac af ad ef ae ac af ad ab ay az a0 a2 ai dz d0 ew a4 aj fb gs) ?_
   rintro _ g5 ⟨gt, gu, gv, rfl, bs, gw, gx⟩
   refine ⟨_, rfl, ?_⟩
   clear a4
   clear aj
   refine lN <| wR <| lV (.int .i64 (IntKind.i64.wrap ((bm : Int) + 1))) (r_add (bm : Int) 1 rfl rfl) <| lM (.int .i64 (IntKind.i64.wrap ((bm : Int) + 1))) <| lN ?_
   replace h1 := ((((h1.gr bg).gr a3).gr a8).kp a9).kpp bs
   replace ah := ((((ah.gr bg).gr a3).gr a8).kp a9).kpp bs
   replace hst := ((((hst.grow bg).grow a3).grow a8).kp a9 gq).kpp bs
   replace ae := ae.kpp bs
   replace ac := ac.kpp bs
   replace af := af.kpp bs
   replace ad := ad.kpp bs
   replace ay := ay.kpp bs
   replace az := az.kpp bs
   replace a0 := a0.kpp bs
   replace a2 := a2.kpp bs
   replace ab := ab.kpp bs
   replace ai := ai.kpp bs
   exact ⟨fa.length, by simp, ⟨gt, gu, gv, fb, (bm + 1), fa, rfl, hl2_L2, hm, hst, gw, gx, ae, ac, af, ad, ab, ah, h1, ay, az, a0, a2, ai, (congrArg (Value.int .i64) (wrap_succ (Nat.lt_of_lt_of_le hlt_L2 h1.1.1))), rfl, rfl, rfl, rfl, rfl, rfl, rfl⟩⟩
def m_slices_Chunk_int_int_1_L1 (N : Nat) (ab : List Int) (ac : Int) : Nat → Int → Option (List (List Int))
  | 0, _ => none
  | ad + 1, aa => if (decide (aa < (ab.length : Int))) = true then (chk ((0 : Int) ≤ aa ∧ aa ≤ (ab.length : Int)) (chk ((0 : Int) ≤ aa ∧ aa ≤ (IntKind.i64.wrap (aa + (if ((ab.drop (Int.toNat aa)).length : Int) < ac then ((ab.drop (Int.toNat aa)).length : Int) else ac))) ∧ (IntKind.i64.wrap (aa + (if ((ab.drop (Int.toNat aa)).length : Int) < ac then ((ab.drop (Int.toNat aa)).length : Int) else ac))) ≤ (IntKind.i64.wrap (aa + (if ((ab.drop (Int.toNat aa)).length : Int) < ac then ((ab.drop (Int.toNat aa)).length : Int) else ac))) ∧ (IntKind.i64.wrap (aa + (if ((ab.drop (Int.toNat aa)).length : Int) < ac then ((ab.drop (Int.toNat aa)).length : Int) else ac))) ≤ (ab.length : Int)) (((m_slices_Chunk_int_int_1_L1 N ab ac ad) (IntKind.i64.wrap (aa + ac))).bind fun ae => some ((ab.take (Int.toNat (IntKind.i64.wrap (aa + (if ((ab.drop (Int.toNat aa)).length : Int) < ac then ((ab.drop (Int.toNat aa)).length : Int) else ac))))).drop (Int.toNat aa) :: ae)))) else (some [])
termination_by structural x => x
def m_slices_Chunk_int_int_1 (N : Nat) (aa : List Int) (ab : Int) : Option (List (List Int)) :=
  m_slices_Chunk_int_int_1_L1 N aa ab N 0
theorem c_slices_Chunk_int_int_1 (N : Nat) (col : Col) (w0 : World) (g0 : Nat) (af0 : Option Addr) (capf0 : Nat) (ab : List Int) (hf0 : Sl (Rep.int .i64) col w0 af0 capf0 ab) (hb0 : Box 33 450 col w0 g0 #[(.slice af0 ab.length capf0)]) (g1 : Nat) (ac : Int) (hb1 : Box 3 450 col w0 g1 #[(.int .i64 ac)]) (r : List (List Int)) (hm : m_slices_Chunk_int_int_1 N ab ac = some r) :
    Goes Tryz.prog 87 [(.pointer (some ⟨g0, 0, none⟩)), (.pointer (some ⟨g1, 0, none⟩))] (fun (y : List Int) (col : Col) (w : World) (args : List Value) => ∃ (a0 : Option Addr) (cap0 : Nat), args = [.slice a0 y.length cap0] ∧ Sl (Rep.int .i64) col w a0 cap0 y) r col w0 := by
 intro l J X hjs hxs hy hst
 refine calls_of0 (m := 31) (args := [.func (.yield l) #[] #[], (.pointer (some ⟨g0, 0, none⟩)), (.pointer (some ⟨g1, 0, none⟩))]) Tryz.func87 rfl rfl rfl rfl ?_
 rw [m_slices_Chunk_int_int_1.eq_1] at hm
 refine wS <| wR <| lA (.int .i64 0) <| lN <| wB ?_
 refine wloop (fun n f af => ∃ (ad : Col) (r : List (List Int)) (aa : Int) (ae : Nat), ae = n ∧ m_slices_Chunk_int_int_1_L1 N ab ac ae aa = some r ∧ J r ad af ∧ Sl (Rep.int .i64) ad af af0 capf0 ab ∧ Box 33 450 ad af g0 #[(.slice af0 ab.length capf0)] ∧ Box 3 450 ad af g1 #[(.int .i64 ac)] ∧ f 0 = (.func (.yield l) #[] #[]) ∧ f 1 = (.pointer (some ⟨g0, 0, none⟩)) ∧ f 2 = (.pointer (some ⟨g1, 0, none⟩)) ∧ f 4 = (.int .i64 aa) ∧ f 1000000 = (enc [])) N ⟨col, r, 0, N, rfl, hm, hst, hf0, hb0, hb1, rfl, rfl, rfl, rfl, rfl⟩ ?_
 clear hm; intro n f af hI
 obtain ⟨ad, r, aa, ae, hn, hm, hst, hf0, hb0, hb1, hs0, hs1, hs2, hs4, hs1000000⟩ := hI
 subst hn
 refine .lD 0 hs0 <| .lD 1 hs1 <| .lD 2 hs2 <| .lD 4 hs4 <| .lD 1000000 hs1000000 ?_
 clear hs0 hs1 hs2 hs4 hs1000000
 cases ae with
 | zero => rw [m_slices_Chunk_int_int_1_L1.eq_1] at hm; cases hm
 | succ ae =>
  rw [m_slices_Chunk_int_int_1_L1.eq_2] at hm
  refine wS <| wS <| wR <| lM (.int .i64 aa) <| lV (.slice af0 ab.length capf0) (r_ld Tryz.isAgg33 rfl hb0.at1) <| lV (.int .i64 (ab.length : Int)) (r_len Tryz.underlying33 rfl) <| lV (.bool (decide (aa < (ab.length : Int)))) (r_lss aa (ab.length : Int) rfl rfl) <| lN ?_
  refine wcond (decide (aa < (ab.length : Int))) rfl (fun hb => ?_) (fun hb => ?_)
  ·rw [if_pos hb] at hm
   clear hb
   refine wK <| wS <| wB <| wS ?_
   refine wquiet (col := ad) (by kernel_rfl) (by kernel_rfl) ?_
   refine qv (v := (.int .i64 ac)) rfl (fun _ hC => r_ld Tryz.isAgg3 rfl (hb1.at1.gr (Grow.of_below (col := ad) hC.below))) ?_
   refine qv (v := (.slice af0 ab.length capf0)) rfl (fun _ hC => r_ld Tryz.isAgg33 rfl (hb0.at1.gr (Grow.of_below (col := ad) hC.below))) ?_
   refine qv (v := (.int .i64 aa)) rfl (fun _ hC => r_move rfl) ?_
   obtain ⟨aj, hm⟩ := cS hm
   have aq := hf0.drop (sz := 1) rfl (Int.toNat aa)
   refine qv (v := .slice (if capf0 = (Int.toNat aa) then af0 else af0.map (·.add ((Int.toNat aa) * 1))) (ab.length - (Int.toNat aa)) (capf0 - (Int.toNat aa))) rfl (fun _ hC => r_sliceL Tryz.underlying33 Tryz.sizeOf3 rfl rfl aj.1 aj.2) ?_
   generalize (if capf0 = (Int.toNat aa) then af0 else af0.map (·.add ((Int.toNat aa) * 1))) = ak at *
   refine .ld (d := 16) (v := (.slice ak ((ab.drop (Int.toNat aa)).length) (capf0 - (Int.toNat aa)))) (congrArg (fun n => Value.slice ak n (capf0 - (Int.toNat aa))) (List.length_drop (i := (Int.toNat aa)) (l := ab)).symm) ?_
   refine qv (v := (.int .i64 ((ab.drop (Int.toNat aa)).length : Int))) rfl (fun _ hC => r_len Tryz.underlying33 rfl) ?_
   refine qv (v := (.int .i64 (if ((ab.drop (Int.toNat aa)).length : Int) < ac then ((ab.drop (Int.toNat aa)).length : Int) else ac))) rfl (fun _ hC => r_min ac ((ab.drop (Int.toNat aa)).length : Int) rfl rfl) ?_
   refine qv (v := (.int .i64 (if ((ab.drop (Int.toNat aa)).length : Int) < ac then ((ab.drop (Int.toNat aa)).length : Int) else ac))) rfl (fun _ hC => r_assign rfl) ?_
   refine qnil ?_
   intro al hC
   replace hC : Grow ad af ad al := .of_below hC.below
   replace hf0 := hf0.gr hC
   replace hb0 := hb0.gr hC
   replace hb1 := hb1.gr hC
   replace hst := hjs _ _ _ _ _ hst hC.toP
   refine wS <| wR <| lM (.func (.yield l) #[] #[]) <| lV (.slice af0 ab.length capf0) (r_ld Tryz.isAgg33 rfl hb0.at1) <| lM (.int .i64 aa) <| lM (.int .i64 aa) <| lM (.int .i64 (if ((ab.drop (Int.toNat aa)).length : Int) < ac then ((ab.drop (Int.toNat aa)).length : Int) else ac)) <| lV (.int .i64 (IntKind.i64.wrap (aa + (if ((ab.drop (Int.toNat aa)).length : Int) < ac then ((ab.drop (Int.toNat aa)).length : Int) else ac)))) (r_add aa (if ((ab.drop (Int.toNat aa)).length : Int) < ac then ((ab.drop (Int.toNat aa)).length : Int) else ac) rfl rfl) <| lM (.int .i64 aa) <| lM (.int .i64 (if ((ab.drop (Int.toNat aa)).length : Int) < ac then ((ab.drop (Int.toNat aa)).length : Int) else ac)) <| lV (.int .i64 (IntKind.i64.wrap (aa + (if ((ab.drop (Int.toNat aa)).length : Int) < ac then ((ab.drop (Int.toNat aa)).length : Int) else ac)))) (r_add aa (if ((ab.drop (Int.toNat aa)).length : Int) < ac then ((ab.drop (Int.toNat aa)).length : Int) else ac) rfl rfl) ?_
   obtain ⟨ag, hm⟩ := cS hm
   have am := ((hf0.take (Int.toNat (IntKind.i64.wrap (aa + (if ((ab.drop (Int.toNat aa)).length : Int) < ac then ((ab.drop (Int.toNat aa)).length : Int) else ac))))).recap (show (ab.take (Int.toNat (IntKind.i64.wrap (aa + (if ((ab.drop (Int.toNat aa)).length : Int) < ac then ((ab.drop (Int.toNat aa)).length : Int) else ac))))).length ≤ (Int.toNat (IntKind.i64.wrap (aa + (if ((ab.drop (Int.toNat aa)).length : Int) < ac then ((ab.drop (Int.toNat aa)).length : Int) else ac)))) by rw [List.length_take (i := (Int.toNat (IntKind.i64.wrap (aa + (if ((ab.drop (Int.toNat aa)).length : Int) < ac then ((ab.drop (Int.toNat aa)).length : Int) else ac))))) (l := ab)]; have := ag.2; omega)).drop (sz := 1) rfl (Int.toNat aa)
   refine lv (v := .slice (if (Int.toNat (IntKind.i64.wrap (aa + (if ((ab.drop (Int.toNat aa)).length : Int) < ac then ((ab.drop (Int.toNat aa)).length : Int) else ac)))) = (Int.toNat aa) then af0 else af0.map (·.add ((Int.toNat aa) * 1))) ((Int.toNat (IntKind.i64.wrap (aa + (if ((ab.drop (Int.toNat aa)).length : Int) < ac then ((ab.drop (Int.toNat aa)).length : Int) else ac)))) - (Int.toNat aa)) ((Int.toNat (IntKind.i64.wrap (aa + (if ((ab.drop (Int.toNat aa)).length : Int) < ac then ((ab.drop (Int.toNat aa)).length : Int) else ac)))) - (Int.toNat aa))) rfl rfl (r_sliceLHM Tryz.underlying33 Tryz.sizeOf3 rfl rfl rfl rfl ag.1 ag.2.1 ag.2.2.1 (by have := hf0.1.2; have := ag.2.2.2; omega)) ?_
   generalize (if (Int.toNat (IntKind.i64.wrap (aa + (if ((ab.drop (Int.toNat aa)).length : Int) < ac then ((ab.drop (Int.toNat aa)).length : Int) else ac)))) = (Int.toNat aa) then af0 else af0.map (·.add ((Int.toNat aa) * 1))) = ah at *
   refine .ld (d := 28) (v := (.slice ah (((ab.take (Int.toNat (IntKind.i64.wrap (aa + (if ((ab.drop (Int.toNat aa)).length : Int) < ac then ((ab.drop (Int.toNat aa)).length : Int) else ac))))).drop (Int.toNat aa)).length) ((Int.toNat (IntKind.i64.wrap (aa + (if ((ab.drop (Int.toNat aa)).length : Int) < ac then ((ab.drop (Int.toNat aa)).length : Int) else ac)))) - (Int.toNat aa)))) (congrArg (fun n => Value.slice ah n ((Int.toNat (IntKind.i64.wrap (aa + (if ((ab.drop (Int.toNat aa)).length : Int) < ac then ((ab.drop (Int.toNat aa)).length : Int) else ac)))) - (Int.toNat aa))) (show (Int.toNat (IntKind.i64.wrap (aa + (if ((ab.drop (Int.toNat aa)).length : Int) < ac then ((ab.drop (Int.toNat aa)).length : Int) else ac)))) - (Int.toNat aa) = ((ab.take (Int.toNat (IntKind.i64.wrap (aa + (if ((ab.drop (Int.toNat aa)).length : Int) < ac then ((ab.drop (Int.toNat aa)).length : Int) else ac))))).drop (Int.toNat aa)).length by rw [List.length_drop (i := (Int.toNat aa)) (l := ab.take (Int.toNat (IntKind.i64.wrap (aa + (if ((ab.drop (Int.toNat aa)).length : Int) < ac then ((ab.drop (Int.toNat aa)).length : Int) else ac))))), List.length_take (i := (Int.toNat (IntKind.i64.wrap (aa + (if ((ab.drop (Int.toNat aa)).length : Int) < ac then ((ab.drop (Int.toNat aa)).length : Int) else ac))))) (l := ab)]; have := ag.2; omega)) ?_
   obtain ⟨an, hc_14m, ao⟩ := bS hm
   cases ao
   have hm := hc_14m
   clear hc_14m
   refine ly1 rfl rfl rfl (hy _ _ _ _ [(.slice ah (((ab.take (Int.toNat (IntKind.i64.wrap (aa + (if ((ab.drop (Int.toNat aa)).length : Int) < ac then ((ab.drop (Int.toNat aa)).length : Int) else ac))))).drop (Int.toNat aa)).length) ((Int.toNat (IntKind.i64.wrap (aa + (if ((ab.drop (Int.toNat aa)).length : Int) < ac then ((ab.drop (Int.toNat aa)).length : Int) else ac)))) - (Int.toNat aa)))] hst ⟨ah, ((Int.toNat (IntKind.i64.wrap (aa + (if ((ab.drop (Int.toNat aa)).length : Int) < ac then ((ab.drop (Int.toNat aa)).length : Int) else ac)))) - (Int.toNat aa)), rfl, am⟩) ?_
   rintro _ ar ⟨ap, ai, ⟨rfl, hJ⟩ | ⟨rfl, hX⟩⟩
   ·refine ⟨_, rfl, ?_⟩
    clear hst
    have hst := hJ
    clear hJ
    refine lV (.bool false) (r_not true rfl) <| lN ?_
    refine wcondF rfl ?_
    refine wK <| wR <| lM (.int .i64 aa) ?_
    replace hb1 := hb1.kpp ai
    refine lV (.int .i64 ac) (r_ld Tryz.isAgg3 rfl hb1.at1) <| lV (.int .i64 (IntKind.i64.wrap (aa + ac))) (r_add aa ac rfl rfl) <| lA (.int .i64 (IntKind.i64.wrap (aa + ac))) <| lN ?_
    replace hf0 := hf0.kpp ai
    replace hb0 := hb0.kpp ai
    exact ⟨ae, by omega, ⟨ap, an, (IntKind.i64.wrap (aa + ac)), ae, rfl, hm, hst, hf0, hb0, hb1, rfl, rfl, rfl, rfl, rfl⟩⟩
   clear hm
   refine ⟨_, rfl, ?_⟩
   clear hst
   have hst := hX
   clear hX
   refine lV (.bool true) (r_not false rfl) <| lN ?_
   refine wcondT rfl ?_
   refine wret ?_
   exact ⟨rfl, ⟨_, rfl⟩, _, .inr hst⟩
  rw [if_neg (by rw [hb]; decide)] at hm
  clear hb
  refine wexit (inB_hit ?_)
  cases hm
  exact ⟨rfl, ⟨_, rfl⟩, _, .inl hst⟩
def m_slices_Chunk_int_int_J1 (N : Nat) (aa : (List Int)) (ab : Int) : Option (List (List Int)) :=
  m_slices_Chunk_int_int_1 N aa ab
def m_slices_Chunk_int_int (N : Nat) (ab : (List Int)) (aa : Int) : Option (List (List Int)) :=
  if (decide (aa < 1)) = true then none else (m_slices_Chunk_int_int_J1 N ab aa)
theorem c_slices_Chunk_int_int (N : Nat) (col : Col) (w0 : World) (a0 : Option Addr) (cap0 : Nat) (ab : (List Int)) (aa : Int) (h0 : Sl (Rep.int .i64) col w0 a0 cap0 ab) (r : (List (List Int))) (hm : m_slices_Chunk_int_int N ab aa = some r) :
    Calls Tryz.prog 38 #[(.slice a0 ab.length cap0), (.int .i64 aa)] w0 (fun e w' => ∃ (col' : Col) (rv1 : Value), e = .returned (rv1) ∧ Grow col w0 col' w' ∧ It Tryz.prog rv1 (fun (y : List Int) (col : Col) (w : World) (args : List Value) => ∃ (a0 : Option Addr) (cap0 : Nat), args = [.slice a0 y.length cap0] ∧ Sl (Rep.int .i64) col w a0 cap0 y) r q0 col' w') := by
 refine calls_of1 4 (m := 9) (args := [(.slice a0 ab.length cap0), (.int .i64 aa)]) Tryz.func38 rfl rfl rfl rfl rfl ?_
 rw [m_slices_Chunk_int_int.eq_1] at hm
 have hst := St.start col w0
 refine wS <| wR ?_
 refine l_box (col := (col0 col)) (v := (.slice a0 ab.length cap0)) 1 rfl rfl ?_
 intro ac ao al am ad
 replace ad : Box 33 1 al ao ac #[(.slice a0 ab.length cap0)] := ad
 refine l_box (col := al) (v := (.int .i64 aa)) 2 rfl rfl ?_
 intro ae ap an ai af
 replace af : Box 3 2 an ap ae #[(.int .i64 aa)] := af
 refine lv (v := _) rfl rfl (r_assign rfl) ?_
 refine lN <| wS ?_
 replace h0 := ((h0.keep (Stay.start col w0)).gr am).gr ai
 replace hst := (hst.grow am).grow ai
 replace ad := ad.gr ai
 refine Wp.cut (fun f ah => ∃ (ag : Col), m_slices_Chunk_int_int_J1 N ab aa  = some r ∧ St w0 (col0 col) ag ah ∧ Sl (Rep.int .i64) ag ah a0 cap0 ab ∧ Box 33 1 ag ah ac #[(.slice a0 ab.length cap0)] ∧ Box 3 2 ag ah ae #[(.int .i64 aa)] ∧ f 2 = (.pointer (some ⟨ac, 0, none⟩)) ∧ f 3 = (.pointer (some ⟨ae, 0, none⟩)) ∧ f 1000000 = (enc [])) ?_ ?_
 ·intro f ah hJ
  obtain ⟨ag, hm, hst, h0, ad, af, hs2, hs3, hs1000000⟩ := hJ
  rw [m_slices_Chunk_int_int_J1.eq_1] at hm
  refine .lD 2 hs2 <| .lD 3 hs3 <| .lD 1000000 hs1000000 ?_
  clear hs2 hs3 hs1000000
  refine wS <| wR <| lV (.func (.func 87) #[] #[(.pointer (some ⟨ac, 0, none⟩)), (.pointer (some ⟨ae, 0, none⟩))]) (r_func2 rfl rfl) <| lA (.func (.func 87) #[] #[(.pointer (some ⟨ac, 0, none⟩)), (.pointer (some ⟨ae, 0, none⟩))]) <| lN ?_
  refine wret ?_
  have aj := hst.finBox (G := (fun n => bif Nat.beq n 1 then 450 else bif Nat.beq n 2 then 450 else 0)) ad (by decide) (by decide) (show (fun n => bif Nat.beq n 1 then 450 else bif Nat.beq n 2 then 450 else 0) 1 = 450 from rfl)
  have h0f := hst.finSl (g := (fun n => bif Nat.beq n 1 then 450 else bif Nat.beq n 2 then 450 else 0)) rfl h0
  have ak := hst.finBox (G := (fun n => bif Nat.beq n 1 then 450 else bif Nat.beq n 2 then 450 else 0)) af (by decide) (by decide) (show (fun n => bif Nat.beq n 1 then 450 else bif Nat.beq n 2 then 450 else 0) 2 = 450 from rfl)
  refine ⟨rfl, colF w0.heap.size col ag (fun n => bif Nat.beq n 1 then 450 else bif Nat.beq n 2 then 450 else 0), _, rfl, hst.fin (fun n => bif Nat.beq n 1 then 450 else bif Nat.beq n 2 then 450 else 0), 87, [(.pointer (some ⟨ac, 0, none⟩)), (.pointer (some ⟨ae, 0, none⟩))], rfl, Tryz.call87, ?_⟩
  intro col9 w9 hs9 hk9
  replace aj := aj.itk hs9 hk9 rfl
  replace h0f := h0f.itk hs9 hk9 rfl
  replace ak := ak.itk hs9 hk9 rfl
  exact c_slices_Chunk_int_int_1 N col9 w9 ac a0 cap0 ab h0f aj ae aa ak r hm
 refine wS <| wR <| lV (.int .i64 aa) (r_ld Tryz.isAgg3 rfl af.at1) <| lV (.bool (decide (aa < 1))) (r_lss aa 1 rfl rfl) <| lN ?_
 refine wcond (decide (aa < 1)) rfl (fun hb => ?_) (fun hb => ?_)
 ·rw [if_pos hb] at hm
  clear hb
  cases hm
 rw [if_neg (by rw [hb]; decide)] at hm
 clear hb
 refine wK ?_
 exact ⟨an, hm, hst, h0, ad, af, rfl, rfl, rfl⟩
def m_learn_factorial_L1 (N : Nat) (ab : Int) : Nat → (List Int) → Int → Option (List Int)
  | 0, _, _ => none
  | ad + 1, ac, aa => if (decide (aa ≤ ab)) = true then ((m_nat_Of N (IntKind.u64.wrap aa)).bind fun ae => (m_nat_Mul N ac ae).bind fun af => (m_learn_factorial_L1 N ab ad) af (IntKind.i64.wrap (aa + 1))) else (some ac)
termination_by structural x => x
def m_learn_factorial (N : Nat) (aa : Int) : Option (List Int) :=
  (m_nat_Of N 1).bind fun ab => m_learn_factorial_L1 N aa N ab 2
theorem c_learn_factorial (N : Nat) (c1 : Nat) (col : Col) (w0 : World) (ab : Int) (r : (List Int)) (hm : m_learn_factorial N ab = some r) :
    Calls Tryz.prog 39 #[(.int .i64 ab)] w0 (fun e w' => ∃ (col' : Col) (ra1 : Option Addr) (rc2 : Nat), e = .returned ((.slice ra1 r.length rc2)) ∧ Grow col w0 col' w' ∧ Own (Rep.int .u32) 114 c1 col' w' ra1 rc2 r) := by
 refine calls_of1 2 (m := 17) (args := [(.int .i64 ab)]) Tryz.func39 rfl rfl rfl rfl rfl ?_
 rw [m_learn_factorial.eq_1] at hm
 have hst := St.start col w0
 refine wS <| wR <| lA (.slice none (([] : List Int).length) 0) <| lN <| wS <| wR ?_
 obtain ⟨al, aw, hm⟩ := bS hm
 refine lc rfl rfl (r_call1 Tryz.call59 rfl) (c_nat_Of N 1 (col0 col) _ 1 al aw) ?_
 rintro _ a8 ⟨ax, ao, ap, rfl, ay, az⟩
 refine ⟨_, rfl, ?_⟩
 refine lA (.slice ao al.length ap) <| lN <| wS <| wS <| wR <| lA (.int .i64 2) <| lN <| wB ?_
 replace hst := hst.grow ay
 refine wloop (fun n f am => ∃ (ag : Col) (ac : Option Addr) (ad : Nat) (ae : List Int) (aa : Int) (af : Nat), af = n ∧ m_learn_factorial_L1 N ab af ae aa = some r ∧ St w0 (col0 col) ag am ∧ Own (Rep.int .u32) 114 1 ag am ac ad ae ∧ f 0 = (.int .i64 ab) ∧ f 3 = (.slice ac ae.length ad) ∧ f 4 = (.int .i64 aa) ∧ f 1000000 = (enc [])) N ⟨ax, ao, ap, al, 2, N, rfl, hm, hst, az, rfl, rfl, rfl, rfl⟩ ?_
 clear hm; intro n f am hI
 obtain ⟨ag, ac, ad, ae, aa, af, hn, hm, hst, ai, hs0, hs3, hs4, hs1000000⟩ := hI
 subst hn
 refine .lD 0 hs0 <| .lD 3 hs3 <| .lD 4 hs4 <| .lD 1000000 hs1000000 ?_
 clear hs0 hs3 hs4 hs1000000
 cases af with
 | zero => rw [m_learn_factorial_L1.eq_1] at hm; cases hm
 | succ af =>
  rw [m_learn_factorial_L1.eq_2] at hm
  refine wS <| wS <| wR <| lM (.int .i64 aa) <| lM (.int .i64 ab) <| lV (.bool (decide (aa ≤ ab))) (r_leq aa ab rfl rfl) <| lN ?_
  refine wcond (decide (aa ≤ ab)) rfl (fun hb => ?_) (fun hb => ?_)
  ·rw [if_pos hb] at hm
   clear hb
   refine wK <| wS <| wB <| wR <| lM (.slice ac ae.length ad) <| lM (.int .i64 aa) <| lV (.int .u64 (IntKind.u64.wrap aa)) (r_conv aa ⟨_, Tryz.underlying3⟩ Tryz.underlying108 rfl) ?_
   obtain ⟨aq, a0, hm⟩ := bS hm
   refine lc rfl rfl (r_call1 Tryz.call59 rfl) (c_nat_Of N 2 ag _ (IntKind.u64.wrap aa) aq a0) ?_
   rintro _ a1 ⟨aj, a2, a3, rfl, ar, a4⟩
   refine ⟨_, rfl, ?_⟩
   obtain ⟨an, a5, hm⟩ := bS hm
   replace ai := ai.gr ar
   refine lc rfl rfl (r_call2 Tryz.call40 rfl rfl) (c_nat_Mul N 3 (frC 2 (frC 1 aj)) _ ac ad ae a2 a3 aq ((ai.toSlF (Froz.int .u32)).froz 2) ((a4.froz 1 (by decide)).toSlF (Froz.int .u32)) an a5) ?_
   rintro _ a9 ⟨a6, au, av, rfl, ak, ah⟩
   refine ⟨_, rfl, ?_⟩
   replace ah := ah.thaw (flat_int .u32) ak (((Fz.refl (col := aj)).froz 1).froz 2) (by decide)
   replace ak := ak.thawR (col := aj)
   generalize colR a1.heap.size aj a6 = a7 at *
   refine lA (.slice au an.length av) <| lN <| wR <| lM (.int .i64 aa) <| lV (.int .i64 (IntKind.i64.wrap (aa + 1))) (r_add aa 1 rfl rfl) <| lA (.int .i64 (IntKind.i64.wrap (aa + 1))) <| lN ?_
   replace ah := ah.recolSelf 1 (by decide)
   replace hst := (hst.grow ar).grow ak
   replace hst := hst.recol 3 1 (by decide) (by decide)
   exact ⟨af, by omega, ⟨(rcC 3 1 a7), au, av, an, (IntKind.i64.wrap (aa + 1)), af, rfl, hm, hst, ah, rfl, rfl, rfl, rfl⟩⟩
  rw [if_neg (by rw [hb]; decide)] at hm
  clear hb
  refine wexit (inB_hit ?_)
  refine wS <| wR <| lM (.slice ac ae.length ad) <| lA (.slice ac ae.length ad) <| lN ?_
  refine wret ?_
  cases hm
  exact ⟨rfl, colF w0.heap.size col ag (fun n => bif Nat.beq n 1 then c1 else 0), ac, ad, rfl, hst.fin (fun n => bif Nat.beq n 1 then c1 else 0), hst.finOwn (g := (fun n => bif Nat.beq n 1 then c1 else 0)) rfl ai (by decide) (by decide) rfl⟩
def m_slices_Index_int_int_L1 (ab : Int) : List Int → Nat → Option Int
  | [], aa => some (-1)
  | ac :: ad, aa => if (decide (ab = ac)) = true then (some (aa : Int)) else ((m_slices_Index_int_int_L1 ab ad) (aa + 1))
termination_by structural x => x
def m_slices_Index_int_int (aa : (List Int)) (ab : Int) : Option Int :=
  m_slices_Index_int_int_L1 ab aa 0
theorem c_slices_Index_int_int (col : Col) (w0 : World) (a0 : Option Addr) (cap0 : Nat) (ab : (List Int)) (ac : Int) (h0 : Sl (Rep.int .i64) col w0 a0 cap0 ab) (r : Int) (hm : m_slices_Index_int_int ab ac = some r) :
    Calls Tryz.prog 86 #[(.slice a0 ab.length cap0), (.int .i64 ac)] w0 (fun e w' => e = .returned ((.int .i64 r)) ∧ Below w0.heap.size w0 w') := by
 refine calls_of1 4 (m := 19) (args := [(.slice a0 ab.length cap0), (.int .i64 ac)]) Tryz.func86 rfl rfl rfl rfl rfl ?_
 rw [m_slices_Index_int_int.eq_1] at hm
 have hst := St.start col w0
 refine wS <| wR <| lA (.int .i64 0) <| lN <| wS <| wS <| wR <| lM (.slice a0 ab.length cap0) <| lV (.int .i64 (ab.length : Int)) (r_len Tryz.underlying33 rfl) <| lM (.int .i64 0) <| lN <| wB ?_
 replace h0 := h0.keep (Stay.start col w0)
 refine wloop (fun n f ag => ∃ (ae : Col) (aa : Nat) (ad : List Int), n = ad.length ∧ ab.drop aa = ad ∧ m_slices_Index_int_int_L1 ac ad aa = some r ∧ St w0 (col0 col) ae ag ∧ Sl (Rep.int .i64) ae ag a0 cap0 ab ∧ f 8 = (.int .i64 (aa : Int)) ∧ f 0 = (.slice a0 ab.length cap0) ∧ f 1 = (.int .i64 ac) ∧ f 7 = (.int .i64 (ab.length : Int)) ∧ f 1000000 = (enc [])) ab.length ⟨(col0 col), 0, ab, rfl, rfl, hm, hst, h0, rfl, rfl, rfl, rfl, rfl⟩ ?_
 clear hm; intro n f ag hI
 obtain ⟨ae, aa, ad, hn, hl, hm, hst, h0, hs8, hs0, hs1, hs7, hs1000000⟩ := hI
 subst hn
 refine .lD 8 hs8 <| .lD 0 hs0 <| .lD 1 hs1 <| .lD 7 hs7 <| .lD 1000000 hs1000000 ?_
 clear hs8 hs0 hs1 hs7 hs1000000
 cases ad with
 | nil =>
  have hk : ¬ ((aa : Int) < (ab.length : Int)) := by have := List.drop_eq_nil_iff.1 hl; omega
  have hkb := decide_eq_false hk
  rw [m_slices_Index_int_int_L1.eq_1] at hm
  refine wS <| wR <| lV (.bool (decide ((aa : Int) < (ab.length : Int)))) (r_lss (aa : Int) (ab.length : Int) rfl rfl) <| lN <| wS ?_
  refine wcondF (congrArg Value.bool hkb) ?_
  refine wexit (inB_hit ?_)
  refine wS <| wR <| lA (.int .i64 (-1)) <| lN ?_
  refine wret ?_
  cases hm
  exact ⟨rfl, rfl, hst.below⟩
 | cons af ah =>
  obtain ⟨hat, hl2_L1, hlt_L1⟩ := drop_get hl
  have hk : (aa : Int) < (ab.length : Int) := by omega
  have hkb := decide_eq_true hk
  rw [m_slices_Index_int_int_L1.eq_2] at hm
  refine wS <| wR <| lV (.bool (decide ((aa : Int) < (ab.length : Int)))) (r_lss (aa : Int) (ab.length : Int) rfl rfl) <| lN <| wS ?_
  refine wcondT (congrArg Value.bool hkb) ?_
  refine wK <| wS <| wB <| wS <| wR <| lM (.int .i64 (aa : Int)) <| lA (.int .i64 (aa : Int)) <| lN <| wS <| wR <| lM (.int .i64 ac) <| lM (.slice a0 ab.length cap0) <| lM (.int .i64 (aa : Int)) ?_
  refine lV (sptr a0 (Int.toNat (aa : Int) * 1)) (r_idx Tryz.underlying33 Tryz.sizeOf3 rfl rfl (at?_some hat).1 (at?_some hat).2.1 (h0.addr hat)) ?_
  refine lV (.int .i64 af) (r_ld Tryz.isAgg3 rfl (h0.atInt hat)) <| lV (.bool (decide (ac = af))) (r_eql ac af rfl rfl) <| lN ?_
  refine wcond (decide (ac = af)) rfl (fun hb => ?_) (fun hb => ?_)
  ·rw [if_pos hb] at hm
   clear hb
   refine wS <| wR <| lM (.int .i64 (aa : Int)) <| lA (.int .i64 (aa : Int)) <| lN ?_
   refine wret ?_
   cases hm
   exact ⟨rfl, rfl, hst.below⟩
  rw [if_neg (by rw [hb]; decide)] at hm
  clear hb
  refine wK <| wR <| lV (.int .i64 (IntKind.i64.wrap ((aa : Int) + 1))) (r_add (aa : Int) 1 rfl rfl) <| lM (.int .i64 (IntKind.i64.wrap ((aa : Int) + 1))) <| lN ?_
  exact ⟨ah.length, by simp, ⟨ae, (aa + 1), ah, rfl, hl2_L1, hm, hst, h0, (congrArg (Value.int .i64) (wrap_succ (Nat.lt_of_lt_of_le hlt_L1 h0.1.1))), rfl, rfl, rfl, rfl⟩⟩
def m_slices_Contains_int_int (aa : (List Int)) (ab : Int) : Option Bool :=
  (m_slices_Index_int_int aa ab).bind fun ac => some (decide (0 ≤ ac))
theorem c_slices_Contains_int_int (col : Col) (w0 : World) (a0 : Option Addr) (cap0 : Nat) (aa : (List Int)) (ab : Int) (h0 : Sl (Rep.int .i64) col w0 a0 cap0 aa) (r : Bool) (hm : m_slices_Contains_int_int aa ab = some r) :
    Calls Tryz.prog 37 #[(.slice a0 aa.length cap0), (.int .i64 ab)] w0 (fun e w' => e = .returned ((.bool r)) ∧ Below w0.heap.size w0 w') := by
 refine calls_of1 4 (m := 9) (args := [(.slice a0 aa.length cap0), (.int .i64 ab)]) Tryz.func37 rfl rfl rfl rfl rfl ?_
 rw [m_slices_Contains_int_int.eq_1] at hm
 have hst := St.start col w0
 refine wS <| wR <| lA (.bool false) <| lN <| wS <| wR <| lM (.slice a0 aa.length cap0) <| lM (.int .i64 ab) ?_
 obtain ⟨ac, ae, hm⟩ := bS hm
 replace h0 := h0.keep (Stay.start col w0)
 refine lc rfl rfl (r_call2 Tryz.call86 rfl rfl) (c_slices_Index_int_int (col0 col) _ a0 cap0 aa ab h0 ac ae) ?_
 rintro _ af ⟨rfl, ad⟩
 refine ⟨_, rfl, ?_⟩
 replace ad : Grow (col0 col) w0 (col0 col) af := .of_below ad
 refine lV (.bool (decide (0 ≤ ac))) (r_geq ac 0 rfl rfl) <| lA (.bool (decide (0 ≤ ac))) <| lN ?_
 refine wret ?_
 cases hm
 replace hst := hst.grow ad
 exact ⟨rfl, rfl, hst.below⟩
def m_learn_Score_L4 (N : Nat) (ae : (List ByteArray)) (af : Bool) (ag : List Int) (ah : List Int) (kk_L3 : (Bool → (List Int) → (List Int) → Option (((Bool × (List Int)) × (List Int)) × Int))) : List Int → Int → (List Int) → Option (((Bool × (List Int)) × (List Int)) × Int)
  | [], aa, ab => (m_learn_factorial N (IntKind.i64.wrap ((IntKind.i64.wrap (aa + (ae.length : Int))) - 1))).bind fun aj => (m_frac_New N (false, ab) (false, aj)).bind fun ac => (m_frac_Mul N ((af, ag), ah) ((ac.1.1.1, ac.1.1.2), ac.1.2)).bind fun ad => kk_L3 ad.1.1 ad.1.2 ad.2
  | ai :: ak, aa, ab => (m_learn_factorial N ai).bind fun al => (m_nat_Mul N ab al).bind fun am => (m_learn_Score_L4 N ae af ag ah kk_L3 ak) (IntKind.i64.wrap (aa + ai)) am
termination_by structural x => x
def m_learn_Score_L3 (N : Nat) (ae : Int) (kk_L2 : (Int → Bool → (List Int) → (List Int) → Option (((Bool × (List Int)) × (List Int)) × Int))) (aa : (List ByteArray)) : List (List Int) → Bool → (List Int) → (List Int) → Option (((Bool × (List Int)) × (List Int)) × Int)
  | [], ab, ac, ad => kk_L2 (IntKind.i64.wrap (ae + 1)) ab ac ad
  | af :: ag, ab, ac, ad => (m_learn_factorial N (IntKind.i64.wrap ((aa.length : Int) - 1))).bind fun ah => m_learn_Score_L4 N aa ab ac ad (m_learn_Score_L3 N ae kk_L2 aa ag) af 0 ah
termination_by structural x => x
def m_learn_Score_L2 (N : Nat) (aa : (ByteArray × (List ByteArray) × (List (List ByteArray)) × (List (List Int)) × (List (List ((Bool × (List Int)) × (List Int)))))) (ac : (List (List Int))) : Nat → Int → Bool → (List Int) → (List Int) → Option (((Bool × (List Int)) × (List Int)) × Int)
  | 0, _, _, _, _ => none
  | ah + 1, ab, ad, ae, af => if (decide (ab < (aa.2.1.length : Int))) = true then ((m_data_Count N (aa.1, aa.2.1, aa.2.2.1, aa.2.2.2.1, aa.2.2.2.2) ac ab).bind fun ai => (at? aa.2.2.1 ab).bind fun ag => (m_slices_Chunk_int_int N ai.1 (ag.length : Int)).bind fun aj => m_learn_Score_L3 N ab (m_learn_Score_L2 N aa ac ah) ag aj ad ae af) else (some (((ad, ae), af), 0))
termination_by structural x => x
def m_learn_Score_L1 (N : Nat) (ab : (ByteArray × (List ByteArray) × (List (List ByteArray)) × (List (List Int)) × (List (List ((Bool × (List Int)) × (List Int)))))) (ac : (List (List Int))) : List (List Int) → Bool → (List Int) → (List Int) → Option (((Bool × (List Int)) × (List Int)) × Int)
  | [], ad, ae, af => (m_learn_whole N 1).bind fun aa => m_learn_Score_L2 N ab ac N 0 aa.1.1 aa.1.2 aa.2
  | ag :: ah, ad, ae, af => (m_slices_Contains_int_int ag (-1)).bind fun ai => if ai = true then (some (((false, ([] : List Int)), ([] : List Int)), 72)) else ((m_learn_Score_L1 N ab ac ah) ad ae af)
termination_by structural x => x
def m_learn_Score (N : Nat) (aa : (ByteArray × (List ByteArray) × (List (List ByteArray)) × (List (List Int)) × (List (List ((Bool × (List Int)) × (List Int)))))) (ab : (List (List Int))) : Option (((Bool × (List Int)) × (List Int)) × Int) :=
  (m_learn_wrong N (aa.1, aa.2.1, aa.2.2.1, aa.2.2.2.1, aa.2.2.2.2) ab).bind fun ac => if (!decide (ac = 0)) = true then none else (m_learn_Score_L1 N aa ab ab false ([] : List Int) ([] : List Int))
theorem c_learn_Score (N : Nat) (c1 : Nat) (c2 : Nat) (col : Col) (w0 : World) (aw : Option Addr) (ax : Nat) (au : Option Addr) (ay : Nat) (bb : Option Addr) (bc : Nat) (bd : Option Addr) (be : Nat) (aa : (ByteArray × (List ByteArray) × (List (List ByteArray)) × (List (List Int)) × (List (List ((Bool × (List Int)) × (List Int)))))) (a1 : Option Addr) (cap1 : Nat) (ak : (List (List Int))) (ad : Sl Rep.str col w0 aw ax aa.2.1) (ab : Sl (Rep.slice Rep.str) col w0 au ay aa.2.2.1) (ae : Sl (Rep.slice (Rep.int .i64)) col w0 bb bc aa.2.2.2.1) (af : Sl (Rep.slice (Rep.pair (Rep.pair Rep.bool (Rep.slice (Rep.int .u32))) (Rep.slice (Rep.int .u32)))) col w0 bd be aa.2.2.2.2) (h1 : Sl (Rep.slice (Rep.int .i64)) col w0 a1 cap1 ak) (r : (((Bool × (List Int)) × (List Int)) × Int)) (hm : m_learn_Score N aa ak = some r) :
    Calls Tryz.prog 12 #[(.agg #[(.string aa.1), (.slice aw aa.2.1.length ax), (.slice au aa.2.2.1.length ay), (.slice bb aa.2.2.2.1.length bc), (.slice bd aa.2.2.2.2.length be)]), (.slice a1 ak.length cap1)] w0 (fun e w' => ∃ (col' : Col) (ra1 : Option Addr) (rc2 : Nat) (ra4 : Option Addr) (rc5 : Nat), e = .returned (.tuple #[(.agg #[(.bool r.1.1.1), (.slice ra1 r.1.1.2.length rc2), (.slice ra4 r.1.2.length rc5)]), (.int .i64 r.2)]) ∧ Grow col w0 col' w' ∧ Own (Rep.int .u32) 114 c1 col' w' ra1 rc2 r.1.1.2 ∧ Own (Rep.int .u32) 114 c2 col' w' ra4 rc5 r.1.2) := by
 refine calls_ofMR (m := 96) (args := [(.agg #[(.string aa.1), (.slice aw aa.2.1.length ax), (.slice au aa.2.2.1.length ay), (.slice bb aa.2.2.2.1.length bc), (.slice bd aa.2.2.2.2.length be)]), (.slice a1 ak.length cap1)]) Tryz.func12 rfl rfl rfl ?_
 rw [m_learn_Score.eq_1] at hm
 have hst := St.start col w0
 replace ad := ad.keep (Stay.start col w0)
 replace ab := ab.keep (Stay.start col w0)
 replace ae := ae.keep (Stay.start col w0)
 replace af := af.keep (Stay.start col w0)
 replace h1 := h1.keep (Stay.start col w0)
 have hmk : Marks (col0 col) w0 [] := .nil
 refine wS <| wR ?_
 refine l_box (col := (col0 col)) (v := (.agg #[(.string aa.1), (.slice aw aa.2.1.length ax), (.slice au aa.2.2.1.length ay), (.slice bb aa.2.2.2.1.length bc), (.slice bd aa.2.2.2.2.length be)])) 1 rfl rfl ?_
 intro b9 e3 ej cz ac
 replace ac : Box 28 1 ej e3 b9 #[(.string aa.1), (.slice aw aa.2.1.length ax), (.slice au aa.2.2.1.length ay), (.slice bb aa.2.2.2.1.length bc), (.slice bd aa.2.2.2.2.length be)] := ac
 refine l_alloc (col := ej) (v := (.agg #[(.bool false), (.slice none (([] : List Int).length) 0), (.slice none (([] : List Int).length) 0)])) 2 rfl Tryz.zeroValue40 ?_
 intro ca ek dc cp ag
 replace ag : Box 40 2 dc ek ca #[(.bool false), (.slice none (([] : List Int).length) 0), (.slice none (([] : List Int).length) 0)] := ag
 refine lA (.int .i64 0) <| lN <| wS <| wS <| wR ?_
 replace ac := ac.gr cp
 refine lV (.agg #[(.string aa.1), (.slice aw aa.2.1.length ax), (.slice au aa.2.2.1.length ay), (.slice bb aa.2.2.2.1.length bc), (.slice bd aa.2.2.2.2.length be)]) (r_ldN Tryz.isAgg28 Tryz.sizeOf28 rfl rfl ac.atN) <| lM (.slice a1 ak.length cap1) ?_
 obtain ⟨c6, e4, hm⟩ := bS hm
 replace ad := (ad.gr cz).gr cp
 replace ab := (ab.gr cz).gr cp
 replace ae := (ae.gr cz).gr cp
 replace af := (af.gr cz).gr cp
 replace h1 := (h1.gr cz).gr cp
 refine lc rfl rfl (r_call2 Tryz.call23 rfl rfl) (c_learn_wrong N dc _ aw ax au ay bb bc bd be (aa.1, aa.2.1, aa.2.2.1, aa.2.2.2.1, aa.2.2.2.2) a1 cap1 ak ad ab ae af h1 c6 e4) ?_
 rintro _ e5 ⟨rfl, b0⟩
 refine ⟨_, rfl, ?_⟩
 replace b0 : Grow dc ek dc e5 := .of_below b0
 refine lA (.int .i64 c6) <| lN <| wS <| wR <| lM (.int .i64 c6) <| lV (.bool (!decide (c6 = 0))) (r_neq c6 0 rfl rfl) <| lN ?_
 replace hmk := ((hmk.gr cz).gr cp).gr b0
 replace hst := ((hst.grow cz).grow cp).grow b0
 replace h1 := h1.gr b0
 replace ad := ad.gr b0
 replace ab := ab.gr b0
 replace ae := ae.gr b0
 replace af := af.gr b0
 replace ac := ac.gr b0
 replace ag := ag.gr b0
 refine wcond (!decide (c6 = 0)) rfl (fun hb => ?_) (fun hb => ?_)
 ·rw [if_pos hb] at hm
  clear hb
  cases hm
 rw [if_neg (by rw [hb]; decide)] at hm
 clear hb
 refine wK <| wS <| wS <| wR <| lM (.slice a1 ak.length cap1) <| lV (.int .i64 (ak.length : Int)) (r_len Tryz.underlying34 rfl) <| lM (.int .i64 0) <| lN <| wB ?_
 refine wloop (fun n f bs => ∃ (az : Col) (bo : Nat) (c0 : Bool) (cb : Option Addr) (cc : Nat) (b1 : List Int) (cd : Option Addr) (ce : Nat) (b2 : List Int) (dd : List (List Int)), n = dd.length ∧ ak.drop bo = dd ∧ m_learn_Score_L1 N aa ak dd c0 b1 b2 = some r ∧ St w0 (col0 col) az bs ∧ Sl (Rep.slice (Rep.int .i64)) az bs a1 cap1 ak ∧ Sl Rep.str az bs aw ax aa.2.1 ∧ Sl (Rep.slice Rep.str) az bs au ay aa.2.2.1 ∧ Sl (Rep.slice (Rep.int .i64)) az bs bb bc aa.2.2.2.1 ∧ Sl (Rep.slice (Rep.pair (Rep.pair Rep.bool (Rep.slice (Rep.int .u32))) (Rep.slice (Rep.int .u32)))) az bs bd be aa.2.2.2.2 ∧ Box 28 1 az bs b9 #[(.string aa.1), (.slice aw aa.2.1.length ax), (.slice au aa.2.2.1.length ay), (.slice bb aa.2.2.2.1.length bc), (.slice bd aa.2.2.2.2.length be)] ∧ Own (Rep.int .u32) 114 3 az bs cb cc b1 ∧ Own (Rep.int .u32) 114 4 az bs cd ce b2 ∧ Box 40 2 az bs ca #[(.bool c0), (.slice cb b1.length cc), (.slice cd b2.length ce)] ∧ Marks az bs [] ∧ f 30 = (.int .i64 (bo : Int)) ∧ f 1 = (.slice a1 ak.length cap1) ∧ f 2 = (.pointer (some ⟨b9, 0, none⟩)) ∧ f 28 = (.slice a1 ak.length cap1) ∧ f 29 = (.int .i64 (ak.length : Int)) ∧ f 4 = (.pointer (some ⟨ca, 0, none⟩)) ∧ f 1000000 = (enc [])) ak.length ⟨dc, 0, false, none, 0, ([] : List Int), none, 0, ([] : List Int), ak, rfl, rfl, hm, hst, h1, ad, ab, ae, af, ac, Own.nil, Own.nil, ag, hmk, rfl, rfl, rfl, rfl, rfl, rfl, rfl⟩ ?_
 clear hm; intro n f bs hI
 obtain ⟨az, bo, c0, cb, cc, b1, cd, ce, b2, dd, hn, hl, hm, hst, h1, ad, ab, ae, af, ac, ah, ai, ag, hmk, hs30, hs1, hs2, hs28, hs29, hs4, hs1000000⟩ := hI
 subst hn
 refine .lD 30 hs30 <| .lD 1 hs1 <| .lD 2 hs2 <| .lD 28 hs28 <| .lD 29 hs29 <| .lD 4 hs4 <| .lD 1000000 hs1000000 ?_
 clear hs30 hs1 hs2 hs28 hs29 hs4 hs1000000
 cases dd with
 | nil =>
  have hk : ¬ ((bo : Int) < (ak.length : Int)) := by have := List.drop_eq_nil_iff.1 hl; omega
  have hkb := decide_eq_false hk
  rw [m_learn_Score_L1.eq_1] at hm
  refine wS <| wR <| lV (.bool (decide ((bo : Int) < (ak.length : Int)))) (r_lss (bo : Int) (ak.length : Int) rfl rfl) <| lN <| wS ?_
  refine wcondF (congrArg Value.bool hkb) ?_
  refine wexit (inB_hit ?_)
  refine wS <| wR ?_
  obtain ⟨cf, e6, hm⟩ := bS hm
  refine lc rfl rfl (r_call1 Tryz.call28 rfl) (c_learn_whole N 5 6 az _ 1 cf e6) ?_
  rintro _ gp ⟨e7, d3, d4, d5, d6, rfl, b3, d7, d8⟩
  refine ⟨_, rfl, ?_⟩
  refine l_alloc (col := e7) (v := (.agg #[(.bool false), (.slice none (([] : List Int).length) 0), (.slice none (([] : List Int).length) 0)])) 7 rfl Tryz.zeroValue40 ?_
  intro cq e8 d9 bt ds
  replace ds : Box 40 7 d9 e8 cq #[(.bool false), (.slice none (([] : List Int).length) 0), (.slice none (([] : List Int).length) 0)] := ds
  refine l_bstore (v := (.agg #[(.bool cf.1.1), (.slice d3 cf.1.2.length d4), (.slice d5 cf.2.length d6)])) ds Tryz.sizeOf40 rfl rfl (by intro u hu; simp only [Value.cells, List.mem_cons, List.not_mem_nil, or_false] at hu; rcases hu with rfl | rfl | rfl <;> rfl) rfl rfl ?_
  intro e9 bu fa aj
  clear ds
  replace aj : Box 40 7 d9 e9 cq #[(.bool cf.1.1), (.slice d3 cf.1.2.length d4), (.slice d5 cf.2.length d6)] := aj
  refine lN <| wS <| wS <| wR <| lV (.pointer ((some (⟨b9, 0, none⟩ : Addr)).map (·.add 1))) (rF (sz := 1) (off := 1) Tryz.underlying28 rfl Tryz.sizeOf23 (by decide) rfl rfl ⟨_, _, rfl⟩) ?_
  replace ac := ((ac.gr b3).gr bt).kp bu
  refine lV (.slice aw aa.2.1.length ax) (r_ld Tryz.isAgg23 rfl ((ac.atN).nth (q := 1) (v := (.slice aw aa.2.1.length ax)) rfl)) <| lV (.int .i64 (aa.2.1.length : Int)) (r_len Tryz.underlying23 rfl) <| lM (.int .i64 0) <| lN <| wB ?_
  replace h1 := ((h1.gr b3).gr bt).kp bu
  replace ad := ((ad.gr b3).gr bt).kp bu
  replace ab := ((ab.gr b3).gr bt).kp bu
  replace ae := ((ae.gr b3).gr bt).kp bu
  replace af := ((af.gr b3).gr bt).kp bu
  replace ah := ((ah.gr b3).gr bt).kp bu
  replace ai := ((ai.gr b3).gr bt).kp bu
  replace ag := ((ag.gr b3).gr bt).kp bu
  replace hmk := ((hmk.gr b3).gr bt).kp bu
  replace hst := ((hst.grow b3).grow bt).kp bu fa
  replace d7 := (d7.gr bt).kp bu
  replace d8 := (d8.gr bt).kp bu
  refine wloop (fun n f bj => ∃ (a8 : Col) (a2 : Int) (c3 : Bool) (cr : Option Addr) (cs : Nat) (ct : List Int) (cu : Option Addr) (cv : Nat) (cw : List Int) (de : List Nat) (cj : Nat), cj = n ∧ m_learn_Score_L2 N aa ak cj a2 c3 ct cw = some r ∧ St w0 (col0 col) a8 bj ∧ Sl (Rep.slice (Rep.int .i64)) a8 bj a1 cap1 ak ∧ Sl Rep.str a8 bj aw ax aa.2.1 ∧ Sl (Rep.slice Rep.str) a8 bj au ay aa.2.2.1 ∧ Sl (Rep.slice (Rep.int .i64)) a8 bj bb bc aa.2.2.2.1 ∧ Sl (Rep.slice (Rep.pair (Rep.pair Rep.bool (Rep.slice (Rep.int .u32))) (Rep.slice (Rep.int .u32)))) a8 bj bd be aa.2.2.2.2 ∧ Box 28 1 a8 bj b9 #[(.string aa.1), (.slice aw aa.2.1.length ax), (.slice au aa.2.2.1.length ay), (.slice bb aa.2.2.2.1.length bc), (.slice bd aa.2.2.2.2.length be)] ∧ Own (Rep.int .u32) 114 3 a8 bj cb cc b1 ∧ Own (Rep.int .u32) 114 4 a8 bj cd ce b2 ∧ Box 40 2 a8 bj ca #[(.bool c0), (.slice cb b1.length cc), (.slice cd b2.length ce)] ∧ Own (Rep.int .u32) 114 5 a8 bj cr cs ct ∧ Own (Rep.int .u32) 114 6 a8 bj cu cv cw ∧ Box 40 7 a8 bj cq #[(.bool c3), (.slice cr ct.length cs), (.slice cu cw.length cv)] ∧ Marks a8 bj de ∧ f 1 = (.slice a1 ak.length cap1) ∧ f 2 = (.pointer (some ⟨b9, 0, none⟩)) ∧ f 4 = (.pointer (some ⟨ca, 0, none⟩)) ∧ f 41 = (.int .i64 (aa.2.1.length : Int)) ∧ f 42 = (.int .i64 a2) ∧ f 9 = (.pointer (some ⟨cq, 0, none⟩)) ∧ f 1000000 = (enc de)) N ⟨d9, 0, cf.1.1, d3, d4, cf.1.2, d5, d6, cf.2, [], N, rfl, hm, hst, h1, ad, ab, ae, af, ac, ah, ai, ag, d7, d8, aj, hmk, rfl, rfl, rfl, rfl, rfl, rfl, rfl⟩ ?_
  clear hm; intro n f bj hI
  obtain ⟨a8, a2, c3, cr, cs, ct, cu, cv, cw, de, cj, hn, hm, hst, h1, ad, ab, ae, af, ac, ah, ai, ag, cg, ch, aj, hmk, hs1, hs2, hs4, hs41, hs42, hs9, hs1000000⟩ := hI
  subst hn
  refine .lD 1 hs1 <| .lD 2 hs2 <| .lD 4 hs4 <| .lD 41 hs41 <| .lD 42 hs42 <| .lD 9 hs9 <| .lD 1000000 hs1000000 ?_
  clear hs1 hs2 hs4 hs41 hs42 hs9 hs1000000
  cases cj with
  | zero => rw [m_learn_Score_L2.eq_1] at hm; cases hm
  | succ cj =>
   rw [m_learn_Score_L2.eq_2] at hm
   refine wS <| wR <| lV (.bool (decide (a2 < (aa.2.1.length : Int)))) (r_lss a2 (aa.2.1.length : Int) rfl rfl) <| lN <| wS ?_
   refine wcond (decide (a2 < (aa.2.1.length : Int))) rfl (fun hb => ?_) (fun hb => ?_)
   ·rw [if_pos hb] at hm
    clear hb
    refine wK <| wS <| wB <| wS <| wR <| lM (.int .i64 a2) <| lA (.int .i64 a2) <| lN <| wS <| wR <| lV (.agg #[(.string aa.1), (.slice aw aa.2.1.length ax), (.slice au aa.2.2.1.length ay), (.slice bb aa.2.2.2.1.length bc), (.slice bd aa.2.2.2.2.length be)]) (r_ldN Tryz.isAgg28 Tryz.sizeOf28 rfl rfl ac.atN) <| lM (.slice a1 ak.length cap1) <| lM (.int .i64 a2) ?_
    obtain ⟨ck, fb, hm⟩ := bS hm
    refine lc rfl rfl (r_call3 Tryz.call26 rfl rfl rfl) (c_data_Count N 8 a8 _ aw ax au ay bb bc bd be (aa.1, aa.2.1, aa.2.2.1, aa.2.2.2.1, aa.2.2.2.2) a1 cap1 ak a2 ad ab ae af h1 ck fb) ?_
    rintro _ gq ⟨fc, df, dg, rfl, bp, dh⟩
    refine ⟨_, rfl, ?_⟩
    refine lM (.tuple #[(.slice df ck.1.length dg), (.int .i64 ck.2)]) <| lV (.slice df ck.1.length dg) (r_extract rfl rfl) <| lV (.int .i64 ck.2) (r_extract rfl rfl) <| lA (.slice df ck.1.length dg) <| lA (.int .i64 ck.2) <| lN <| wS <| wR <| lV (.pointer ((some (⟨b9, 0, none⟩ : Addr)).map (·.add 2))) (rF (sz := 1) (off := 2) Tryz.underlying28 rfl Tryz.sizeOf24 (by decide) rfl rfl ⟨_, _, rfl⟩) ?_
    replace ac := ac.gr bp
    refine lV (.slice au aa.2.2.1.length ay) (r_ld Tryz.isAgg24 rfl ((ac.atN).nth (q := 2) (v := (.slice au aa.2.2.1.length ay)) rfl)) <| lM (.int .i64 a2) ?_
    obtain ⟨ao, dt, hm⟩ := bS hm
    replace ab := ab.gr bp
    refine lV (sptr au (Int.toNat a2 * 1)) (r_idx Tryz.underlying24 Tryz.sizeOf23 rfl rfl (at?_some dt).1 (at?_some dt).2.1 (ab.addr dt)) ?_
    obtain ⟨_, fd, fe⟩ := ab.atN dt
    obtain ⟨⟨ff, fg, rfl, gs⟩, _⟩ := fd
    refine lV (.slice ff ao.length fg) (r_ld Tryz.isAgg23 rfl fe.one) <| lV (.int .i64 (ao.length : Int)) (r_len Tryz.underlying23 rfl) ?_
    refine l_alloc (col := fc) (v := (.int .i64 0)) 9 rfl Tryz.zeroValue3 ?_
    intro di fh ea bk du
    replace du : Box 3 9 ea fh di #[(.int .i64 0)] := du
    refine l_bstore (v := (.int .i64 (ao.length : Int))) du Tryz.sizeOf3 rfl rfl (by intro u hu; simp only [Value.cells, List.mem_cons, List.not_mem_nil, or_false] at hu; subst hu; rfl) rfl rfl ?_
    intro fi bl fj al
    clear du
    replace al : Box 3 9 ea fi di #[(.int .i64 (ao.length : Int))] := al
    refine lN <| wS <| wR <| lM (.slice df ck.1.length dg) <| lV (.int .i64 (ao.length : Int)) (r_ld Tryz.isAgg3 rfl al.at1) ?_
    replace h1 := ((h1.gr bp).gr bk).kp bl
    replace h1 := h1.froz 8
    replace ad := ((ad.gr bp).gr bk).kp bl
    replace ad := ad.froz 8
    replace ab := (ab.gr bk).kp bl
    replace ab := ab.froz 8
    replace ae := ((ae.gr bp).gr bk).kp bl
    replace ae := ae.froz 8
    replace af := ((af.gr bp).gr bk).kp bl
    replace af := af.froz 8
    replace ah := ((ah.gr bp).gr bk).kp bl
    replace ah := ah.froz 8 (by decide)
    replace ai := ((ai.gr bp).gr bk).kp bl
    replace ai := ai.froz 8 (by decide)
    replace cg := ((cg.gr bp).gr bk).kp bl
    replace cg := cg.froz 8 (by decide)
    replace ch := ((ch.gr bp).gr bk).kp bl
    replace ch := ch.froz 8 (by decide)
    replace dh := (dh.gr bk).kp bl
    replace dh := (dh).toSlF (Froz.int .i64)
    replace ac := (ac.gr bk).kp bl
    replace ac := ac.froz 8 (by decide)
    replace ag := ((ag.gr bp).gr bk).kp bl
    replace ag := ag.froz 8 (by decide)
    replace aj := ((aj.gr bp).gr bk).kp bl
    replace aj := aj.froz 8 (by decide)
    replace al := al.froz 8 (by decide)
    replace hmk := ((hmk.gr bp).gr bk).kp bl
    replace hmk := hmk.froz 8 (by decide)
    replace hst := ((hst.grow bp).grow bk).kp bl fj
    replace hst := hst.froz 8 (by decide) (by decide)
    obtain ⟨el, fk, hm⟩ := bS hm
    refine lc rfl rfl (r_call2 Tryz.call38 rfl rfl) (c_slices_Chunk_int_int N (frC 8 ea) _ df dg ck.1 (ao.length : Int) dh el fk) ?_
    rintro _ gt ⟨fl, gu, rfl, bm, fm⟩
    refine ⟨_, rfl, ?_⟩
    refine lN <| wB ?_
    replace h1 := h1.gr bm
    replace ad := ad.gr bm
    replace ab := ab.gr bm
    replace ae := ae.gr bm
    replace af := af.gr bm
    replace ah := ah.gr bm
    replace ai := ai.gr bm
    replace cg := cg.gr bm
    replace ch := ch.gr bm
    replace ac := ac.gr bm
    replace ag := ag.gr bm
    replace aj := aj.gr bm
    replace al := al.gr bm
    replace hmk := hmk.gr bm
    replace hst := hst.grow bm
    refine wrange (psl := [61]) (arr := (fun (y : List Int) (col : Col) (w : World) (args : List Value) => ∃ (a0 : Option Addr) (cap0 : Nat), args = [.slice a0 y.length cap0] ∧ Sl (Rep.int .i64) col w a0 cap0 y)) (ys := el) (col := fl) 498 rfl fm rfl hmk rfl rfl (by rintro _ _ _ _ ⟨_, _, rfl, _⟩; rfl) (fun ys_ ap a3 => ∃ (b4 : Bool) (b5 : Option Addr) (b6 : Nat) (bv : List Int) (b7 : Option Addr) (b8 : Nat) (bw : List Int), m_learn_Score_L3 N a2 (m_learn_Score_L2 N aa ak cj) ao ys_ b4 bv bw = some r ∧ St w0 (col0 col) ap a3 ∧ Sl (Rep.slice (Rep.int .i64)) ap a3 a1 cap1 ak ∧ Box 3 9 ap a3 di #[(.int .i64 (ao.length : Int))] ∧ Sl Rep.str ap a3 aw ax aa.2.1 ∧ Sl (Rep.slice Rep.str) ap a3 au ay aa.2.2.1 ∧ Sl (Rep.slice (Rep.int .i64)) ap a3 bb bc aa.2.2.2.1 ∧ Sl (Rep.slice (Rep.pair (Rep.pair Rep.bool (Rep.slice (Rep.int .u32))) (Rep.slice (Rep.int .u32)))) ap a3 bd be aa.2.2.2.2 ∧ Box 28 1 ap a3 b9 #[(.string aa.1), (.slice aw aa.2.1.length ax), (.slice au aa.2.2.1.length ay), (.slice bb aa.2.2.2.1.length bc), (.slice bd aa.2.2.2.2.length be)] ∧ Own (Rep.int .u32) 114 3 ap a3 cb cc b1 ∧ Own (Rep.int .u32) 114 4 ap a3 cd ce b2 ∧ Box 40 2 ap a3 ca #[(.bool c0), (.slice cb b1.length cc), (.slice cd b2.length ce)] ∧ Own (Rep.int .u32) 114 5 ap a3 b5 b6 bv ∧ Own (Rep.int .u32) 114 6 ap a3 b7 b8 bw ∧ Box 40 7 ap a3 cq #[(.bool b4), (.slice b5 bv.length b6), (.slice b7 bw.length b8)]) (fun _ _ _ => False) ?_ ?_ ⟨c3, cr, cs, ct, cu, cv, cw, hm, hst, h1, al, ad, ab, ae, af, ac, ah, ai, ag, cg, ch, aj⟩ ?_ ?_ ?_
    ·intro ys_ ap a3 col2_ w2_ hJ hk
     obtain ⟨b4, b5, b6, bv, b7, b8, bw, hm, hst, h1, al, ad, ab, ae, af, ac, ah, ai, ag, bg, bh, aj⟩ := hJ
     exact ⟨b4, b5, b6, bv, b7, b8, bw, hm, hst.kpp hk rfl rfl, h1.kpp hk rfl, al.kpp hk rfl, ad.kpp hk rfl, ab.kpp hk rfl, ae.kpp hk rfl, af.kpp hk rfl, ac.kpp hk rfl, ah.kpp hk rfl rfl, ai.kpp hk rfl rfl, ag.kpp hk rfl, bg.kpp hk rfl rfl, bh.kpp hk rfl rfl, aj.kpp hk rfl⟩
    ·intro _ _ _ _ _ h _
     exact h
    ·intro fn gv fo bn fp ap a3 args hJ hrec hmk harr
     obtain ⟨b4, b5, b6, bv, b7, b8, bw, hm, hst, h1, al, ad, ab, ae, af, ac, ah, ai, ag, bg, bh, aj⟩ := hJ
     rw [m_learn_Score_L3.eq_2] at hm
     have hki := KeepP.refl pCo ap a3
     obtain ⟨dj, dv, rfl, bz⟩ := harr
     refine wR <| lA (.slice dj bn.length dv) <| lN ?_
     refine ⟨_, hrec, ?_⟩
     intro gw fq bf em hrec2
     clear hrec
     have hrec := hrec2
     clear hrec2
     refine wB <| wS <| wR <| lA (.int .i64 0) <| lN <| wS <| wR ?_
     replace al := al.kp bf
     refine lV (.int .i64 (ao.length : Int)) (r_ld Tryz.isAgg3 rfl al.at1) <| lV (.int .i64 (IntKind.i64.wrap ((ao.length : Int) - 1))) (r_sub (ao.length : Int) 1 rfl rfl) ?_
     obtain ⟨eb, fr, hm⟩ := bS hm
     refine lc rfl rfl (r_call1 Tryz.call39 rfl) (c_learn_factorial N 10 ap _ (IntKind.i64.wrap ((ao.length : Int) - 1)) eb fr) ?_
     rintro _ gx ⟨fs, en, eo, rfl, a9, ft⟩
     refine ⟨_, rfl, ?_⟩
     refine lA (.slice en eb.length eo) <| lN <| wS <| wS <| wR <| lM (.slice dj bn.length dv) <| lV (.int .i64 (bn.length : Int)) (r_len Tryz.underlying33 rfl) <| lM (.int .i64 0) <| lN <| wB ?_
     replace h1 := (h1.kp bf).gr a9
     replace ad := (ad.kp bf).gr a9
     replace ab := (ab.kp bf).gr a9
     replace ae := (ae.kp bf).gr a9
     replace af := (af.kp bf).gr a9
     replace ah := (ah.kp bf).gr a9
     replace ai := (ai.kp bf).gr a9
     replace bg := (bg.kp bf).gr a9
     replace bh := (bh.kp bf).gr a9
     replace bz := (bz.kp bf).gr a9
     replace ac := (ac.kp bf).gr a9
     replace ag := (ag.kp bf).gr a9
     replace aj := (aj.kp bf).gr a9
     replace hmk := (hmk.kp bf).gr a9
     replace hki := (hki.kp bf em rfl).gr a9
     replace hst := (hst.kp bf em).grow a9
     replace al := al.gr a9
     replace hrec := hrec.gr a9
     refine wloop (fun n f av => ∃ (am : Col) (bq : Int) (cx : Option Addr) (cy : Nat) (cl : List Int) (br : Nat) (dk : List Int), n = dk.length ∧ bn.drop br = dk ∧ m_learn_Score_L4 N ao b4 bv bw (m_learn_Score_L3 N a2 (m_learn_Score_L2 N aa ak cj) ao fp) dk bq cl = some r ∧ St w0 (col0 col) am av ∧ Sl (Rep.slice (Rep.int .i64)) am av a1 cap1 ak ∧ Box 3 9 am av di #[(.int .i64 (ao.length : Int))] ∧ Own (Rep.int .u32) 114 10 am av cx cy cl ∧ Sl Rep.str am av aw ax aa.2.1 ∧ Sl (Rep.slice Rep.str) am av au ay aa.2.2.1 ∧ Sl (Rep.slice (Rep.int .i64)) am av bb bc aa.2.2.2.1 ∧ Sl (Rep.slice (Rep.pair (Rep.pair Rep.bool (Rep.slice (Rep.int .u32))) (Rep.slice (Rep.int .u32)))) am av bd be aa.2.2.2.2 ∧ Box 28 1 am av b9 #[(.string aa.1), (.slice aw aa.2.1.length ax), (.slice au aa.2.2.1.length ay), (.slice bb aa.2.2.2.1.length bc), (.slice bd aa.2.2.2.2.length be)] ∧ Own (Rep.int .u32) 114 3 am av cb cc b1 ∧ Own (Rep.int .u32) 114 4 am av cd ce b2 ∧ Box 40 2 am av ca #[(.bool c0), (.slice cb b1.length cc), (.slice cd b2.length ce)] ∧ Sl (Rep.int .i64) am av dj dv bn ∧ Own (Rep.int .u32) 114 5 am av b5 b6 bv ∧ Own (Rep.int .u32) 114 6 am av b7 b8 bw ∧ Box 40 7 am av cq #[(.bool b4), (.slice b5 bv.length b6), (.slice b7 bw.length b8)] ∧ Rec 498 am av fn fq ∧ Marks am av fo ∧ KeepP pCo ap a3 am av ∧ f 67 = (.int .i64 (br : Int)) ∧ f 1 = (.slice a1 ak.length cap1) ∧ f 13 = (.pointer (some ⟨di, 0, none⟩)) ∧ f 15 = (.int .i64 bq) ∧ f 16 = (.slice cx cl.length cy) ∧ f 2 = (.pointer (some ⟨b9, 0, none⟩)) ∧ f 4 = (.pointer (some ⟨ca, 0, none⟩)) ∧ f 41 = (.int .i64 (aa.2.1.length : Int)) ∧ f 42 = (.int .i64 a2) ∧ f 65 = (.slice dj bn.length dv) ∧ f 66 = (.int .i64 (bn.length : Int)) ∧ f 9 = (.pointer (some ⟨cq, 0, none⟩)) ∧ f 1000000 = (enc [])) bn.length ⟨fs, 0, en, eo, eb, 0, bn, rfl, rfl, hm, hst, h1, al, ft, ad, ab, ae, af, ac, ah, ai, ag, bz, bg, bh, aj, hrec, hmk, hki, rfl, rfl, rfl, rfl, rfl, rfl, rfl, rfl, rfl, rfl, rfl, rfl, rfl⟩ ?_
     clear hm; intro n f av hI
     obtain ⟨am, bq, cx, cy, cl, br, dk, hn, hl, hm, hst, h1, al, c7, ad, ab, ae, af, ac, ah, ai, ag, bz, bg, bh, aj, hrec, hmk, hki, hs67, hs1, hs13, hs15, hs16, hs2, hs4, hs41, hs42, hs65, hs66, hs9, hs1000000⟩ := hI
     subst hn
     refine .lD 67 hs67 <| .lD 1 hs1 <| .lD 13 hs13 <| .lD 15 hs15 <| .lD 16 hs16 <| .lD 2 hs2 <| .lD 4 hs4 <| .lD 41 hs41 <| .lD 42 hs42 <| .lD 65 hs65 <| .lD 66 hs66 <| .lD 9 hs9 <| .lD 1000000 hs1000000 ?_
     clear hs67 hs1 hs13 hs15 hs16 hs2 hs4 hs41 hs42 hs65 hs66 hs9 hs1000000
     cases dk with
     | nil =>
      have hk : ¬ ((br : Int) < (bn.length : Int)) := by have := List.drop_eq_nil_iff.1 hl; omega
      have hkb := decide_eq_false hk
      rw [m_learn_Score_L4.eq_1] at hm
      refine wS <| wR <| lV (.bool (decide ((br : Int) < (bn.length : Int)))) (r_lss (br : Int) (bn.length : Int) rfl rfl) <| lN <| wS ?_
      refine wcondF (congrArg Value.bool hkb) ?_
      refine wexit (inB_hit ?_)
      refine wS <| wR <| lM (.slice cx cl.length cy) <| lV (.agg #[(.bool false), (.slice cx cl.length cy)]) (r_build (l := [_, _]) (qs := [(0, 1), (1, 1)]) Tryz.underlying38 Tryz.zeroValue38 ⟨rfl, Tryz.sizeOf4, rfl, Tryz.sizeOf36, trivial⟩ rfl) <| lM (.int .i64 bq) <| lV (.int .i64 (ao.length : Int)) (r_ld Tryz.isAgg3 rfl al.at1) <| lV (.int .i64 (IntKind.i64.wrap (bq + (ao.length : Int)))) (r_add bq (ao.length : Int) rfl rfl) <| lV (.int .i64 (IntKind.i64.wrap ((IntKind.i64.wrap (bq + (ao.length : Int))) - 1))) (r_sub (IntKind.i64.wrap (bq + (ao.length : Int))) 1 rfl rfl) ?_
      obtain ⟨ec, fu, hm⟩ := bS hm
      refine lc rfl rfl (r_call1 Tryz.call39 rfl) (c_learn_factorial N 11 am _ (IntKind.i64.wrap ((IntKind.i64.wrap (bq + (ao.length : Int))) - 1)) ec fu) ?_
      rintro _ fv ⟨dl, ep, eq, rfl, ba, fw⟩
      refine ⟨_, rfl, ?_⟩
      refine lV (.agg #[(.bool false), (.slice ep ec.length eq)]) (r_build (l := [_, _]) (qs := [(0, 1), (1, 1)]) Tryz.underlying38 Tryz.zeroValue38 ⟨rfl, Tryz.sizeOf4, rfl, Tryz.sizeOf36, trivial⟩ rfl) ?_
      obtain ⟨an, fx, hm⟩ := bS hm
      replace c7 := c7.gr ba
      refine lc rfl rfl (r_call2 Tryz.call41 rfl rfl) (c_frac_New N 12 13 (frC 11 (frC 10 dl)) _ cx cy (false, cl) ep eq (false, ec) ((c7.toSlF (Froz.int .u32)).froz 11) ((fw.froz 10 (by decide)).toSlF (Froz.int .u32)) an fx) ?_
      rintro _ gy ⟨fy, c8, c9, da, db, rfl, aq, dm, dn⟩
      refine ⟨_, rfl, ?_⟩
      replace dm := dm.thaw (flat_int .u32) aq (((Fz.refl (col := dl)).froz 10).froz 11) (by decide)
      replace dn := dn.thaw (flat_int .u32) aq (((Fz.refl (col := dl)).froz 10).froz 11) (by decide)
      replace aq := aq.thawR (col := dl)
      generalize colR fv.heap.size dl fy = fz at *
      refine lM (.tuple #[(.agg #[(.bool an.1.1.1), (.slice c8 an.1.1.2.length c9), (.slice da an.1.2.length db)]), (.int .i64 an.2)]) <| lV (.agg #[(.bool an.1.1.1), (.slice c8 an.1.1.2.length c9), (.slice da an.1.2.length db)]) (r_extract rfl rfl) <| lV (.int .i64 an.2) (r_extract rfl rfl) ?_
      refine l_alloc (col := fz) (v := (.agg #[(.bool false), (.slice none (([] : List Int).length) 0), (.slice none (([] : List Int).length) 0)])) 14 rfl Tryz.zeroValue40 ?_
      intro er f0 c4 a4 dw
      replace dw : Box 40 14 c4 f0 er #[(.bool false), (.slice none (([] : List Int).length) 0), (.slice none (([] : List Int).length) 0)] := dw
      refine l_bstore (v := (.agg #[(.bool an.1.1.1), (.slice c8 an.1.1.2.length c9), (.slice da an.1.2.length db)])) dw Tryz.sizeOf40 rfl rfl (by intro u hu; simp only [Value.cells, List.mem_cons, List.not_mem_nil, or_false] at hu; rcases hu with rfl | rfl | rfl <;> rfl) rfl rfl ?_
      intro es a5 et ed
      clear dw
      replace ed : Box 40 14 c4 es er #[(.bool an.1.1.1), (.slice c8 an.1.1.2.length c9), (.slice da an.1.2.length db)] := ed
      refine lA (.int .i64 an.2) <| lN <| wR ?_
      replace aj := (((aj.gr ba).gr aq).gr a4).kp a5
      refine lV (.agg #[(.bool b4), (.slice b5 bv.length b6), (.slice b7 bw.length b8)]) (r_ldN Tryz.isAgg40 Tryz.sizeOf40 rfl rfl aj.atN) <| lV (.agg #[(.bool an.1.1.1), (.slice c8 an.1.1.2.length c9), (.slice da an.1.2.length db)]) (r_ldN Tryz.isAgg40 Tryz.sizeOf40 rfl rfl ed.atN) ?_
      obtain ⟨ci, f1, hm⟩ := bS hm
      replace bg := (((bg.gr ba).gr aq).gr a4).kp a5
      replace bh := (((bh.gr ba).gr aq).gr a4).kp a5
      replace dm := (dm.gr a4).kp a5
      replace dn := (dn.gr a4).kp a5
      refine lc rfl rfl (r_call2 Tryz.call35 rfl rfl) (c_frac_Mul N 15 16 (frC 13 (frC 12 (frC 6 (frC 5 c4)))) _ b5 b6 b7 b8 ((b4, bv), bw) c8 c9 da db ((an.1.1.1, an.1.1.2), an.1.2) ((((bg.toSlF (Froz.int .u32)).froz 6).froz 12).froz 13) ((((bh.froz 5 (by decide)).toSlF (Froz.int .u32)).froz 12).froz 13) ((((dm.froz 5 (by decide)).froz 6 (by decide)).toSlF (Froz.int .u32)).froz 13) ((((dn.froz 5 (by decide)).froz 6 (by decide)).froz 12 (by decide)).toSlF (Froz.int .u32)) ci f1) ?_
      rintro _ gz ⟨f2, ee, ef, eg, eh, rfl, a6, cm, cn⟩
      refine ⟨_, rfl, ?_⟩
      replace cm := cm.thaw (flat_int .u32) a6 (((((Fz.refl (col := c4)).froz 5).froz 6).froz 12).froz 13) (by decide)
      replace cn := cn.thaw (flat_int .u32) a6 (((((Fz.refl (col := c4)).froz 5).froz 6).froz 12).froz 13) (by decide)
      replace a6 := a6.thawR (col := c4)
      generalize colR es.heap.size c4 f2 = f3 at *
      replace aj := aj.gr a6
      refine l_bstore (v := (.agg #[(.bool ci.1.1), (.slice ee ci.1.2.length ef), (.slice eg ci.2.length eh)])) aj Tryz.sizeOf40 rfl rfl (by intro u hu; simp only [Value.cells, List.mem_cons, List.not_mem_nil, or_false] at hu; rcases hu with rfl | rfl | rfl <;> rfl) rfl rfl ?_
      intro f4 bi eu c5
      clear aj
      replace c5 : Box 40 7 f3 f4 cq #[(.bool ci.1.1), (.slice ee ci.1.2.length ef), (.slice eg ci.2.length eh)] := c5
      refine lN ?_
      replace h1 := (((((h1.gr ba).gr aq).gr a4).kp a5).gr a6).kp bi
      replace h1 := h1.recol 15 5 (by decide)
      replace ad := (((((ad.gr ba).gr aq).gr a4).kp a5).gr a6).kp bi
      replace ad := ad.recol 15 5 (by decide)
      replace ab := (((((ab.gr ba).gr aq).gr a4).kp a5).gr a6).kp bi
      replace ab := ab.recol 15 5 (by decide)
      replace ae := (((((ae.gr ba).gr aq).gr a4).kp a5).gr a6).kp bi
      replace ae := ae.recol 15 5 (by decide)
      replace af := (((((af.gr ba).gr aq).gr a4).kp a5).gr a6).kp bi
      replace af := af.recol 15 5 (by decide)
      replace ah := (((((ah.gr ba).gr aq).gr a4).kp a5).gr a6).kp bi
      replace ah := ah.recol 15 5 (by decide)
      replace ai := (((((ai.gr ba).gr aq).gr a4).kp a5).gr a6).kp bi
      replace ai := ai.recol 15 5 (by decide)
      replace cm := cm.kp bi
      replace cm := cm.recolSelf 5 (by decide)
      replace cn := cn.kp bi
      replace cn := cn.recol 15 5 (by decide)
      replace al := (((((al.gr ba).gr aq).gr a4).kp a5).gr a6).kp bi
      replace al := al.recol 15 5 (by decide)
      replace ac := (((((ac.gr ba).gr aq).gr a4).kp a5).gr a6).kp bi
      replace ac := ac.recol 15 5 (by decide)
      replace ag := (((((ag.gr ba).gr aq).gr a4).kp a5).gr a6).kp bi
      replace ag := ag.recol 15 5 (by decide)
      replace c5 := c5.recol 15 5 (by decide)
      replace hrec := (((((hrec.gr ba).gr aq).gr a4).kp a5).gr a6).kp bi
      replace hrec := hrec.recol 15 5 (by decide)
      replace hmk := (((((hmk.gr ba).gr aq).gr a4).kp a5).gr a6).kp bi
      replace hmk := hmk.recol 15 5 (by decide)
      replace hki := (((((hki.gr ba).gr aq).gr a4).kp a5 et rfl).gr a6).kp bi eu rfl
      replace hki := hki.recol 15 5 rfl
      replace hst := (((((hst.grow ba).grow aq).grow a4).kp a5 et).grow a6).kp bi eu
      replace hst := hst.recol 15 5 (by decide) (by decide)
      replace h1 := h1.recol 16 6 (by decide)
      replace ad := ad.recol 16 6 (by decide)
      replace ab := ab.recol 16 6 (by decide)
      replace ae := ae.recol 16 6 (by decide)
      replace af := af.recol 16 6 (by decide)
      replace ah := ah.recol 16 6 (by decide)
      replace ai := ai.recol 16 6 (by decide)
      replace cm := cm.recol 16 6 (by decide)
      replace cn := cn.recolSelf 6 (by decide)
      replace al := al.recol 16 6 (by decide)
      replace ac := ac.recol 16 6 (by decide)
      replace ag := ag.recol 16 6 (by decide)
      replace c5 := c5.recol 16 6 (by decide)
      replace hrec := hrec.recol 16 6 (by decide)
      replace hmk := hmk.recol 16 6 (by decide)
      replace hki := hki.recol 16 6 rfl
      replace hst := hst.recol 16 6 (by decide) (by decide)
      exact ⟨_, hki, ⟨ci.1.1, ee, ef, ci.1.2, eg, eh, ci.2, hm, hst, h1, al, ad, ab, ae, af, ac, ah, ai, ag, cm, cn, c5⟩, hrec, hmk⟩
     | cons co ev =>
      obtain ⟨hat, hl2_L4, hlt_L4⟩ := drop_get hl
      have hk : (br : Int) < (bn.length : Int) := by omega
      have hkb := decide_eq_true hk
      rw [m_learn_Score_L4.eq_2] at hm
      refine wS <| wR <| lV (.bool (decide ((br : Int) < (bn.length : Int)))) (r_lss (br : Int) (bn.length : Int) rfl rfl) <| lN <| wS ?_
      refine wcondT (congrArg Value.bool hkb) ?_
      refine wK <| wS <| wB <| wS <| wR ?_
      refine lV (sptr dj (Int.toNat (br : Int) * 1)) (r_idx Tryz.underlying33 Tryz.sizeOf3 rfl rfl (at?_some hat).1 (at?_some hat).2.1 (bz.addr hat)) ?_
      refine lV (.int .i64 co) (r_ld Tryz.isAgg3 rfl (bz.atInt hat)) <| lA (.int .i64 co) <| lN <| wS <| wR <| lM (.int .i64 bq) <| lM (.int .i64 co) <| lV (.int .i64 (IntKind.i64.wrap (bq + co))) (r_add bq co rfl rfl) <| lA (.int .i64 (IntKind.i64.wrap (bq + co))) <| lN <| wR <| lM (.slice cx cl.length cy) <| lM (.int .i64 co) ?_
      obtain ⟨ew, f5, hm⟩ := bS hm
      refine lc rfl rfl (r_call1 Tryz.call39 rfl) (c_learn_factorial N 17 am _ co ew f5) ?_
      rintro _ f6 ⟨dx, f7, f8, rfl, a7, f9⟩
      refine ⟨_, rfl, ?_⟩
      obtain ⟨ei, ga, hm⟩ := bS hm
      replace c7 := c7.gr a7
      refine lc rfl rfl (r_call2 Tryz.call40 rfl rfl) (c_nat_Mul N 18 (frC 17 (frC 10 dx)) _ cx cy cl f7 f8 ew ((c7.toSlF (Froz.int .u32)).froz 17) ((f9.froz 10 (by decide)).toSlF (Froz.int .u32)) ei ga) ?_
      rintro _ g0 ⟨gb, ex, ey, rfl, ar, dp⟩
      refine ⟨_, rfl, ?_⟩
      replace dp := dp.thaw (flat_int .u32) ar (((Fz.refl (col := dx)).froz 10).froz 17) (by decide)
      replace ar := ar.thawR (col := dx)
      generalize colR f6.heap.size dx gb = gc at *
      refine lA (.slice ex ei.length ey) <| lN <| wR <| lV (.int .i64 (IntKind.i64.wrap ((br : Int) + 1))) (r_add (br : Int) 1 rfl rfl) <| lM (.int .i64 (IntKind.i64.wrap ((br : Int) + 1))) <| lN ?_
      replace h1 := (h1.gr a7).gr ar
      replace h1 := h1.recol 18 10 (by decide)
      replace ad := (ad.gr a7).gr ar
      replace ad := ad.recol 18 10 (by decide)
      replace ab := (ab.gr a7).gr ar
      replace ab := ab.recol 18 10 (by decide)
      replace ae := (ae.gr a7).gr ar
      replace ae := ae.recol 18 10 (by decide)
      replace af := (af.gr a7).gr ar
      replace af := af.recol 18 10 (by decide)
      replace ah := (ah.gr a7).gr ar
      replace ah := ah.recol 18 10 (by decide)
      replace ai := (ai.gr a7).gr ar
      replace ai := ai.recol 18 10 (by decide)
      replace bz := (bz.gr a7).gr ar
      replace bz := bz.recol 18 10 (by decide)
      replace bg := (bg.gr a7).gr ar
      replace bg := bg.recol 18 10 (by decide)
      replace bh := (bh.gr a7).gr ar
      replace bh := bh.recol 18 10 (by decide)
      replace dp := dp.recolSelf 10 (by decide)
      replace al := (al.gr a7).gr ar
      replace al := al.recol 18 10 (by decide)
      replace ac := (ac.gr a7).gr ar
      replace ac := ac.recol 18 10 (by decide)
      replace ag := (ag.gr a7).gr ar
      replace ag := ag.recol 18 10 (by decide)
      replace aj := (aj.gr a7).gr ar
      replace aj := aj.recol 18 10 (by decide)
      replace hrec := (hrec.gr a7).gr ar
      replace hrec := hrec.recol 18 10 (by decide)
      replace hmk := (hmk.gr a7).gr ar
      replace hmk := hmk.recol 18 10 (by decide)
      replace hki := (hki.gr a7).gr ar
      replace hki := hki.recol 18 10 rfl
      replace hst := (hst.grow a7).grow ar
      replace hst := hst.recol 18 10 (by decide) (by decide)
      exact ⟨ev.length, by simp, ⟨(rcC 18 10 gc), (IntKind.i64.wrap (bq + co)), ex, ey, ei, (br + 1), ev, rfl, hl2_L4, hm, hst, h1, al, dp, ad, ab, ae, af, ac, ah, ai, ag, bz, bg, bh, aj, hrec, hmk, hki, (congrArg (Value.int .i64) (wrap_succ (Nat.lt_of_lt_of_le hlt_L4 bz.1.1))), rfl, rfl, rfl, rfl, rfl, rfl, rfl, rfl, rfl, rfl, rfl, rfl⟩⟩
    ·clear hmk
     intro gd ap a3 hJ hmk
     obtain ⟨b4, b5, b6, bv, b7, b8, bw, hm, hst, h1, al, ad, ab, ae, af, ac, ah, ai, ag, bg, bh, aj⟩ := hJ
     rw [m_learn_Score_L3.eq_1] at hm
     refine wR <| lV (.int .i64 (IntKind.i64.wrap (a2 + 1))) (r_add a2 1 rfl rfl) <| lM (.int .i64 (IntKind.i64.wrap (a2 + 1))) <| lN ?_
     exact ⟨cj, by omega, ⟨ap, (IntKind.i64.wrap (a2 + 1)), b4, b5, b6, bv, b7, b8, bw, (gd :: de), cj, rfl, hm, hst, h1, ad, ab, ae, af, ac, ah, ai, ag, bg, bh, aj, hmk, rfl, rfl, rfl, rfl, rfl, rfl, rfl⟩⟩
    intro _ _ _ _ h
    exact h.elim
   rw [if_neg (by rw [hb]; decide)] at hm
   clear hb
   refine wexit (inB_hit ?_)
   refine wS <| wR <| lV (.agg #[(.bool c3), (.slice cr ct.length cs), (.slice cu cw.length cv)]) (r_ldN Tryz.isAgg40 Tryz.sizeOf40 rfl rfl aj.atN) ?_
   refine l_bstore (v := (.agg #[(.bool c3), (.slice cr ct.length cs), (.slice cu cw.length cv)])) ag Tryz.sizeOf40 rfl rfl (by intro u hu; simp only [Value.cells, List.mem_cons, List.not_mem_nil, or_false] at hu; rcases hu with rfl | rfl | rfl <;> rfl) rfl rfl ?_
   intro ge dy gf dq
   clear ag
   replace dq : Box 40 2 a8 ge ca #[(.bool c3), (.slice cr ct.length cs), (.slice cu cw.length cv)] := dq
   refine lA (.int .i64 0) <| lN ?_
   refine wret ?_
   cases hm
   replace hmk := hmk.kp dy
   refine ⟨_, de, rfl, hmk, ?_⟩
   intro g1 dz gg
   clear hmk
   replace cg := (cg.kp dy).kp dz
   replace ch := (ch.kp dy).kp dz
   replace hst := (hst.kp dy gf).kp dz gg
   replace dq := dq.kp dz
   exact ⟨_, res_at rfl rfl Tryz.isAgg40 Tryz.sizeOf40 rfl rfl dq.atN rfl rfl, colF w0.heap.size col a8 (fun n => bif Nat.beq n 5 then c1 else bif Nat.beq n 6 then c2 else 0), cr, cs, cu, cv, rfl, hst.fin (fun n => bif Nat.beq n 5 then c1 else bif Nat.beq n 6 then c2 else 0), hst.finOwn (g := (fun n => bif Nat.beq n 5 then c1 else bif Nat.beq n 6 then c2 else 0)) rfl cg (by decide) (by decide) rfl, hst.finOwn (g := (fun n => bif Nat.beq n 5 then c1 else bif Nat.beq n 6 then c2 else 0)) rfl ch (by decide) (by decide) rfl⟩
 | cons d0 ez =>
  obtain ⟨hat, hl2_L1, hlt_L1⟩ := drop_get hl
  have hk : (bo : Int) < (ak.length : Int) := by omega
  have hkb := decide_eq_true hk
  rw [m_learn_Score_L1.eq_2] at hm
  refine wS <| wR <| lV (.bool (decide ((bo : Int) < (ak.length : Int)))) (r_lss (bo : Int) (ak.length : Int) rfl rfl) <| lN <| wS ?_
  refine wcondT (congrArg Value.bool hkb) ?_
  refine wK <| wS <| wB <| wS <| wR ?_
  refine lV (sptr a1 (Int.toNat (bo : Int) * 1)) (r_idx Tryz.underlying34 Tryz.sizeOf33 rfl rfl (at?_some hat).1 (at?_some hat).2.1 (h1.addr hat)) ?_
  obtain ⟨_, gh, gi⟩ := h1.atN hat
  obtain ⟨⟨d1, d2, rfl, gj⟩, _⟩ := gh
  refine lV (.slice d1 d0.length d2) (r_ld Tryz.isAgg33 rfl gi.one) <| lA (.slice d1 d0.length d2) <| lN <| wS <| wR <| lM (.slice d1 d0.length d2) ?_
  obtain ⟨e0, gk, hm⟩ := bS hm
  refine lc rfl rfl (r_call2 Tryz.call37 rfl rfl) (c_slices_Contains_int_int az _ d1 d2 d0 (-1) gj e0 gk) ?_
  rintro _ gl ⟨rfl, bx⟩
  refine ⟨_, rfl, ?_⟩
  replace bx : Grow az bs az gl := .of_below bx
  refine lN ?_
  replace h1 := h1.gr bx
  replace ad := ad.gr bx
  replace ab := ab.gr bx
  replace ae := ae.gr bx
  replace af := af.gr bx
  replace ah := ah.gr bx
  replace ai := ai.gr bx
  replace ac := ac.gr bx
  replace ag := ag.gr bx
  replace hmk := hmk.gr bx
  replace hst := hst.grow bx
  refine wcond (e0) rfl (fun hb => ?_) (fun hb => ?_)
  ·rw [if_pos hb] at hm
   clear hb
   refine wS <| wR <| lV (.agg #[(.bool false), (.slice none (([] : List Int).length) 0), (.slice none (([] : List Int).length) 0)]) (r_build (l := [_, _]) (qs := [(0, 2), (2, 1)]) Tryz.underlying40 Tryz.zeroValue40 ⟨rfl, Tryz.sizeOf38, rfl, Tryz.sizeOf36, trivial⟩ rfl) ?_
   refine l_bstore (v := (.agg #[(.bool false), (.slice none (([] : List Int).length) 0), (.slice none (([] : List Int).length) 0)])) ag Tryz.sizeOf40 rfl rfl (by intro u hu; simp only [Value.cells, List.mem_cons, List.not_mem_nil, or_false] at hu; rcases hu with rfl | rfl | rfl <;> rfl) rfl rfl ?_
   intro gm e1 gn dr
   clear ag
   replace dr : Box 40 2 az gm ca #[(.bool false), (.slice none (([] : List Int).length) 0), (.slice none (([] : List Int).length) 0)] := dr
   refine lA (.int .i64 72) <| lN ?_
   refine wret ?_
   cases hm
   replace hmk := hmk.kp e1
   refine ⟨_, [], rfl, hmk, ?_⟩
   intro g2 e2 go
   clear hmk
   replace hst := (hst.kp e1 gn).kp e2 go
   replace dr := dr.kp e2
   exact ⟨_, res_at rfl rfl Tryz.isAgg40 Tryz.sizeOf40 rfl rfl dr.atN rfl rfl, colF w0.heap.size col az (fun n => 0), none, 0, none, 0, rfl, hst.fin (fun n => 0), Own.nil, Own.nil⟩
  rw [if_neg (by rw [hb]; decide)] at hm
  clear hb
  refine wK <| wR <| lV (.int .i64 (IntKind.i64.wrap ((bo : Int) + 1))) (r_add (bo : Int) 1 rfl rfl) <| lM (.int .i64 (IntKind.i64.wrap ((bo : Int) + 1))) <| lN ?_
  exact ⟨ez.length, by simp, ⟨az, (bo + 1), c0, cb, cc, b1, cd, ce, b2, ez, rfl, hl2_L1, hm, hst, h1, ad, ab, ae, af, ac, ah, ai, ag, hmk, (congrArg (Value.int .i64) (wrap_succ (Nat.lt_of_lt_of_le hlt_L1 h1.1.1))), rfl, rfl, rfl, rfl, rfl, rfl⟩⟩
def m_r07_SameTexts_L1 (N : Nat) (ab : (List ByteArray)) (ac : (List ByteArray)) : Nat → Int → Option Bool
  | 0, _ => none
  | ad + 1, aa => if (decide (aa < (ab.length : Int))) = true then ((at? ab aa).bind fun ae => (at? ac aa).bind fun af => if (!decide (ae = af)) = true then none else ((m_r07_SameTexts_L1 N ab ac ad) (IntKind.i64.wrap (aa + 1)))) else (some true)
termination_by structural x => x
def m_r07_SameTexts (N : Nat) (aa : (List ByteArray)) (ab : (List ByteArray)) : Option Bool :=
  if (!decide ((aa.length : Int) = (ab.length : Int))) = true then none else (m_r07_SameTexts_L1 N aa ab N 0)
theorem c_r07_SameTexts (N : Nat) (col : Col) (w0 : World) (a0 : Option Addr) (cap0 : Nat) (aa : (List ByteArray)) (a1 : Option Addr) (cap1 : Nat) (ac : (List ByteArray)) (h0 : Sl Rep.str col w0 a0 cap0 aa) (h1 : Sl Rep.str col w0 a1 cap1 ac) (r : Bool) (hm : m_r07_SameTexts N aa ac = some r) :
    Calls Tryz.prog 90 #[(.slice a0 aa.length cap0), (.slice a1 ac.length cap1)] w0 (fun e w' => e = .returned ((.bool r)) ∧ Below w0.heap.size w0 w') := by
 refine calls_of1 4 (m := 26) (args := [(.slice a0 aa.length cap0), (.slice a1 ac.length cap1)]) Tryz.func90 rfl rfl rfl rfl rfl ?_
 rw [m_r07_SameTexts.eq_1] at hm
 have hst := St.start col w0
 refine wS <| wR <| lA (.bool false) <| lN <| wS <| wS <| wR <| lM (.slice a0 aa.length cap0) <| lV (.int .i64 (aa.length : Int)) (r_len Tryz.underlying23 rfl) <| lM (.slice a1 ac.length cap1) <| lV (.int .i64 (ac.length : Int)) (r_len Tryz.underlying23 rfl) <| lV (.bool (!decide ((aa.length : Int) = (ac.length : Int)))) (r_neq (aa.length : Int) (ac.length : Int) rfl rfl) <| lN ?_
 replace h0 := h0.keep (Stay.start col w0)
 replace h1 := h1.keep (Stay.start col w0)
 refine wcond (!decide ((aa.length : Int) = (ac.length : Int))) rfl (fun hb => ?_) (fun hb => ?_)
 ·rw [if_pos hb] at hm
  clear hb
  cases hm
 rw [if_neg (by rw [hb]; decide)] at hm
 clear hb
 refine wK <| wS <| wS <| wR <| lA (.int .i64 0) <| lN <| wB ?_
 refine wloop (fun n f af => ∃ (ad : Col) (ab : Int) (ae : Nat), ae = n ∧ m_r07_SameTexts_L1 N aa ac ae ab = some r ∧ St w0 (col0 col) ad af ∧ Sl Rep.str ad af a0 cap0 aa ∧ Sl Rep.str ad af a1 cap1 ac ∧ f 0 = (.slice a0 aa.length cap0) ∧ f 1 = (.slice a1 ac.length cap1) ∧ f 5 = (.int .i64 ab) ∧ f 1000000 = (enc [])) N ⟨(col0 col), 0, N, rfl, hm, hst, h0, h1, rfl, rfl, rfl, rfl⟩ ?_
 clear hm; intro n f af hI
 obtain ⟨ad, ab, ae, hn, hm, hst, h0, h1, hs0, hs1, hs5, hs1000000⟩ := hI
 subst hn
 refine .lD 0 hs0 <| .lD 1 hs1 <| .lD 5 hs5 <| .lD 1000000 hs1000000 ?_
 clear hs0 hs1 hs5 hs1000000
 cases ae with
 | zero => rw [m_r07_SameTexts_L1.eq_1] at hm; cases hm
 | succ ae =>
  rw [m_r07_SameTexts_L1.eq_2] at hm
  refine wS <| wS <| wR <| lM (.int .i64 ab) <| lM (.slice a0 aa.length cap0) <| lV (.int .i64 (aa.length : Int)) (r_len Tryz.underlying23 rfl) <| lV (.bool (decide (ab < (aa.length : Int)))) (r_lss ab (aa.length : Int) rfl rfl) <| lN ?_
  refine wcond (decide (ab < (aa.length : Int))) rfl (fun hb => ?_) (fun hb => ?_)
  ·rw [if_pos hb] at hm
   clear hb
   refine wK <| wS <| wB <| wS ?_
   refine wquiet (col := ad) (by kernel_rfl) (by kernel_rfl) ?_
   refine qv (v := (.slice a0 aa.length cap0)) rfl (fun _ hC => r_move rfl) ?_
   refine qv (v := (.int .i64 ab)) rfl (fun _ hC => r_move rfl) ?_
   obtain ⟨ag, ah, hm⟩ := bS hm
   refine qv (v := (sptr a0 (Int.toNat ab * 1))) rfl (fun _ hC => r_idx Tryz.underlying23 Tryz.sizeOf9 rfl rfl (at?_some ah).1 (at?_some ah).2.1 (h0.addr ah)) ?_
   refine qv (v := (.string ag)) rfl (fun _ hC => r_ld Tryz.isAgg9 rfl ((h0.gr (Grow.of_below (col := ad) hC.below)).atStr ah)) ?_
   refine qv (v := (.slice a1 ac.length cap1)) rfl (fun _ hC => r_move rfl) ?_
   refine qv (v := (.int .i64 ab)) rfl (fun _ hC => r_move rfl) ?_
   obtain ⟨ai, aj, hm⟩ := bS hm
   refine qv (v := (sptr a1 (Int.toNat ab * 1))) rfl (fun _ hC => r_idx Tryz.underlying23 Tryz.sizeOf9 rfl rfl (at?_some aj).1 (at?_some aj).2.1 (h1.addr aj)) ?_
   refine qv (v := (.string ai)) rfl (fun _ hC => r_ld Tryz.isAgg9 rfl ((h1.gr (Grow.of_below (col := ad) hC.below)).atStr aj)) ?_
   refine qv (v := (.bool (!decide (ag = ai)))) rfl (fun _ hC => r_neqS ag ai Tryz.underlying9 rfl rfl) ?_
   refine qnil ?_
   intro ak hC
   replace hC : Grow ad af ad ak := .of_below hC.below
   replace h0 := h0.gr hC
   replace h1 := h1.gr hC
   replace hst := hst.grow hC
   refine wcond (!decide (ag = ai)) rfl (fun hb => ?_) (fun hb => ?_)
   ·rw [if_pos hb] at hm
    clear hb
    cases hm
   rw [if_neg (by rw [hb]; decide)] at hm
   clear hb
   refine wK <| wR <| lM (.int .i64 ab) <| lV (.int .i64 (IntKind.i64.wrap (ab + 1))) (r_add ab 1 rfl rfl) <| lA (.int .i64 (IntKind.i64.wrap (ab + 1))) <| lN ?_
   exact ⟨ae, by omega, ⟨ad, (IntKind.i64.wrap (ab + 1)), ae, rfl, hm, hst, h0, h1, rfl, rfl, rfl, rfl⟩⟩
  rw [if_neg (by rw [hb]; decide)] at hm
  clear hb
  refine wexit (inB_hit ?_)
  refine wS <| wR <| lA (.bool true) <| lN ?_
  refine wret ?_
  cases hm
  exact ⟨rfl, rfl, hst.below⟩
def m_r14_Same_L1 (N : Nat) (aa : (List Int)) : Nat → Int → Option Bool
  | 0, _ => none
  | ac + 1, ab => if (decide (ab < (aa.length : Int))) = true then none else (some true)
def m_r14_Same (N : Nat) (aa : (List Int)) (ab : (List Int)) : Option Bool :=
  if (!decide ((aa.length : Int) = (ab.length : Int))) = true then none else (m_r14_Same_L1 N aa N 0)
theorem c_r14_Same (N : Nat) (col : Col) (w0 : World) (a0 : Option Addr) (cap0 : Nat) (aa : (List Int)) (a1 : Option Addr) (cap1 : Nat) (ab : (List Int)) (h0 : Sl (Rep.int .i64) col w0 a0 cap0 aa) (h1 : Sl (Rep.int .i64) col w0 a1 cap1 ab) (r : Bool) (hm : m_r14_Same N aa ab = some r) :
    Calls Tryz.prog 131 #[(.slice a0 aa.length cap0), (.slice a1 ab.length cap1)] w0 (fun e w' => e = .returned ((.bool r)) ∧ Below w0.heap.size w0 w') := by
 refine calls_of1 4 (m := 26) (args := [(.slice a0 aa.length cap0), (.slice a1 ab.length cap1)]) Tryz.func131 rfl rfl rfl rfl rfl ?_
 rw [m_r14_Same.eq_1] at hm
 have hst := St.start col w0
 refine wS <| wR <| lA (.bool false) <| lN <| wS <| wS <| wR <| lM (.slice a0 aa.length cap0) <| lV (.int .i64 (aa.length : Int)) (r_len Tryz.underlying33 rfl) <| lM (.slice a1 ab.length cap1) <| lV (.int .i64 (ab.length : Int)) (r_len Tryz.underlying33 rfl) <| lV (.bool (!decide ((aa.length : Int) = (ab.length : Int)))) (r_neq (aa.length : Int) (ab.length : Int) rfl rfl) <| lN ?_
 replace h0 := h0.keep (Stay.start col w0)
 replace h1 := h1.keep (Stay.start col w0)
 refine wcond (!decide ((aa.length : Int) = (ab.length : Int))) rfl (fun hb => ?_) (fun hb => ?_)
 ·rw [if_pos hb] at hm
  clear hb
  cases hm
 rw [if_neg (by rw [hb]; decide)] at hm
 clear hb
 refine wK <| wS <| wS <| wR <| lA (.int .i64 0) <| lN <| wB ?_
 refine wloop (fun n f ae => ∃ (af : Col) (ac : Int) (ad : Nat), ad = n ∧ m_r14_Same_L1 N aa ad ac = some r ∧ St w0 (col0 col) af ae ∧ Sl (Rep.int .i64) af ae a0 cap0 aa ∧ Sl (Rep.int .i64) af ae a1 cap1 ab ∧ f 0 = (.slice a0 aa.length cap0) ∧ f 1 = (.slice a1 ab.length cap1) ∧ f 5 = (.int .i64 ac) ∧ f 1000000 = (enc [])) N ⟨(col0 col), 0, N, rfl, hm, hst, h0, h1, rfl, rfl, rfl, rfl⟩ ?_
 clear hm; intro n f ae hI
 obtain ⟨af, ac, ad, hn, hm, hst, h0, h1, hs0, hs1, hs5, hs1000000⟩ := hI
 subst hn
 refine .lD 0 hs0 <| .lD 1 hs1 <| .lD 5 hs5 <| .lD 1000000 hs1000000 ?_
 clear hs0 hs1 hs5 hs1000000
 cases ad with
 | zero => rw [m_r14_Same_L1.eq_1] at hm; cases hm
 | succ ad =>
  rw [m_r14_Same_L1.eq_2] at hm
  refine wS <| wS <| wR <| lM (.int .i64 ac) <| lM (.slice a0 aa.length cap0) <| lV (.int .i64 (aa.length : Int)) (r_len Tryz.underlying33 rfl) <| lV (.bool (decide (ac < (aa.length : Int)))) (r_lss ac (aa.length : Int) rfl rfl) <| lN ?_
  refine wcond (decide (ac < (aa.length : Int))) rfl (fun hb => ?_) (fun hb => ?_)
  ·rw [if_pos hb] at hm
   clear hb
   cases hm
  rw [if_neg (by rw [hb]; decide)] at hm
  clear hb
  refine wexit (inB_hit ?_)
  refine wS <| wR <| lA (.bool true) <| lN ?_
  refine wret ?_
  cases hm
  exact ⟨rfl, rfl, hst.below⟩
def m_r19_lists_L1 (N : Nat) (ab : (List (List Int))) (ac : (List (List Int))) : Nat → Int → Option Bool
  | 0, _ => none
  | ad + 1, aa => if (decide (aa < (ab.length : Int))) = true then ((at? ab aa).bind fun ae => (at? ac aa).bind fun af => (m_r14_Same N ae af).bind fun ag => if (!ag) = true then none else ((m_r19_lists_L1 N ab ac ad) (IntKind.i64.wrap (aa + 1)))) else (some true)
termination_by structural x => x
def m_r19_lists (N : Nat) (aa : (List (List Int))) (ab : (List (List Int))) : Option Bool :=
  if (!decide ((aa.length : Int) = (ab.length : Int))) = true then none else (m_r19_lists_L1 N aa ab N 0)
theorem c_r19_lists (N : Nat) (col : Col) (w0 : World) (a0 : Option Addr) (cap0 : Nat) (aa : (List (List Int))) (a1 : Option Addr) (cap1 : Nat) (ac : (List (List Int))) (h0 : Sl (Rep.slice (Rep.int .i64)) col w0 a0 cap0 aa) (h1 : Sl (Rep.slice (Rep.int .i64)) col w0 a1 cap1 ac) (r : Bool) (hm : m_r19_lists N aa ac = some r) :
    Calls Tryz.prog 91 #[(.slice a0 aa.length cap0), (.slice a1 ac.length cap1)] w0 (fun e w' => e = .returned ((.bool r)) ∧ Below w0.heap.size w0 w') := by
 refine calls_of1 4 (m := 29) (args := [(.slice a0 aa.length cap0), (.slice a1 ac.length cap1)]) Tryz.func91 rfl rfl rfl rfl rfl ?_
 rw [m_r19_lists.eq_1] at hm
 have hst := St.start col w0
 refine wS <| wR <| lA (.bool false) <| lN <| wS <| wS <| wR <| lM (.slice a0 aa.length cap0) <| lV (.int .i64 (aa.length : Int)) (r_len Tryz.underlying25 rfl) <| lM (.slice a1 ac.length cap1) <| lV (.int .i64 (ac.length : Int)) (r_len Tryz.underlying25 rfl) <| lV (.bool (!decide ((aa.length : Int) = (ac.length : Int)))) (r_neq (aa.length : Int) (ac.length : Int) rfl rfl) <| lN ?_
 replace h0 := h0.keep (Stay.start col w0)
 replace h1 := h1.keep (Stay.start col w0)
 refine wcond (!decide ((aa.length : Int) = (ac.length : Int))) rfl (fun hb => ?_) (fun hb => ?_)
 ·rw [if_pos hb] at hm
  clear hb
  cases hm
 rw [if_neg (by rw [hb]; decide)] at hm
 clear hb
 refine wK <| wS <| wS <| wR <| lA (.int .i64 0) <| lN <| wB ?_
 refine wloop (fun n f ag => ∃ (ad : Col) (ab : Int) (ae : Nat), ae = n ∧ m_r19_lists_L1 N aa ac ae ab = some r ∧ St w0 (col0 col) ad ag ∧ Sl (Rep.slice (Rep.int .i64)) ad ag a0 cap0 aa ∧ Sl (Rep.slice (Rep.int .i64)) ad ag a1 cap1 ac ∧ f 0 = (.slice a0 aa.length cap0) ∧ f 1 = (.slice a1 ac.length cap1) ∧ f 5 = (.int .i64 ab) ∧ f 1000000 = (enc [])) N ⟨(col0 col), 0, N, rfl, hm, hst, h0, h1, rfl, rfl, rfl, rfl⟩ ?_
 clear hm; intro n f ag hI
 obtain ⟨ad, ab, ae, hn, hm, hst, h0, h1, hs0, hs1, hs5, hs1000000⟩ := hI
 subst hn
 refine .lD 0 hs0 <| .lD 1 hs1 <| .lD 5 hs5 <| .lD 1000000 hs1000000 ?_
 clear hs0 hs1 hs5 hs1000000
 cases ae with
 | zero => rw [m_r19_lists_L1.eq_1] at hm; cases hm
 | succ ae =>
  rw [m_r19_lists_L1.eq_2] at hm
  refine wS <| wS <| wR <| lM (.int .i64 ab) <| lM (.slice a0 aa.length cap0) <| lV (.int .i64 (aa.length : Int)) (r_len Tryz.underlying25 rfl) <| lV (.bool (decide (ab < (aa.length : Int)))) (r_lss ab (aa.length : Int) rfl rfl) <| lN ?_
  refine wcond (decide (ab < (aa.length : Int))) rfl (fun hb => ?_) (fun hb => ?_)
  ·rw [if_pos hb] at hm
   clear hb
   refine wK <| wS <| wB <| wS ?_
   refine wquiet (col := ad) (by kernel_rfl) (by kernel_rfl) ?_
   refine qv (v := (.slice a0 aa.length cap0)) rfl (fun _ hC => r_move rfl) ?_
   refine qv (v := (.int .i64 ab)) rfl (fun _ hC => r_move rfl) ?_
   obtain ⟨aj, ah, hm⟩ := bS hm
   refine qv (v := (sptr a0 (Int.toNat ab * 1))) rfl (fun _ hC => r_idx Tryz.underlying25 Tryz.sizeOf33 rfl rfl (at?_some ah).1 (at?_some ah).2.1 (h0.addr ah)) ?_
   obtain ⟨_, ap, aq⟩ := h0.atN ah
   obtain ⟨⟨ak, al, rfl, ar⟩, _⟩ := ap
   refine qv (v := (.slice ak aj.length al)) rfl (fun _ hC => r_ld Tryz.isAgg33 rfl (aq.one.gr (Grow.of_below (col := ad) hC.below))) ?_
   refine qv (v := (.slice a1 ac.length cap1)) rfl (fun _ hC => r_move rfl) ?_
   refine qv (v := (.int .i64 ab)) rfl (fun _ hC => r_move rfl) ?_
   obtain ⟨am, ai, hm⟩ := bS hm
   refine qv (v := (sptr a1 (Int.toNat ab * 1))) rfl (fun _ hC => r_idx Tryz.underlying25 Tryz.sizeOf33 rfl rfl (at?_some ai).1 (at?_some ai).2.1 (h1.addr ai)) ?_
   obtain ⟨_, au, av⟩ := h1.atN ai
   obtain ⟨⟨an, ao, rfl, aw⟩, _⟩ := au
   refine qv (v := (.slice an am.length ao)) rfl (fun _ hC => r_ld Tryz.isAgg33 rfl (av.one.gr (Grow.of_below (col := ad) hC.below))) ?_
   obtain ⟨af, ax, hm⟩ := bS hm
   refine qc (v := (.bool af)) rfl (fun _ hC => ⟨_, _, r_call2 Tryz.call131 rfl rfl, (c_r14_Same N ad _ ak al aj an ao am (ar.gr (Grow.of_below (col := ad) hC.below)) (aw.gr (Grow.of_below (col := ad) hC.below)) af ax).mono fun _ _ h => ⟨h.1, hC.trans (.of_below h.2)⟩⟩) ?_
   refine qv (v := (.bool af)) rfl (fun _ hC => r_assign rfl) ?_
   refine qnil ?_
   intro ay hC
   replace hC : Grow ad ag ad ay := .of_below hC.below
   refine wS <| wR <| lM (.bool af) <| lV (.bool (!af)) (r_not af rfl) <| lN ?_
   replace h0 := h0.gr hC
   replace h1 := h1.gr hC
   replace hst := hst.grow hC
   refine wcond (!af) rfl (fun hb => ?_) (fun hb => ?_)
   ·rw [if_pos hb] at hm
    clear hb
    cases hm
   rw [if_neg (by rw [hb]; decide)] at hm
   clear hb
   refine wK <| wR <| lM (.int .i64 ab) <| lV (.int .i64 (IntKind.i64.wrap (ab + 1))) (r_add ab 1 rfl rfl) <| lA (.int .i64 (IntKind.i64.wrap (ab + 1))) <| lN ?_
   exact ⟨ae, by omega, ⟨ad, (IntKind.i64.wrap (ab + 1)), ae, rfl, hm, hst, h0, h1, rfl, rfl, rfl, rfl⟩⟩
  rw [if_neg (by rw [hb]; decide)] at hm
  clear hb
  refine wexit (inB_hit ?_)
  refine wS <| wR <| lA (.bool true) <| lN ?_
  refine wret ?_
  cases hm
  exact ⟨rfl, rfl, hst.below⟩
theorem el114_159 : ElemOk Tryz.prog 114 1 4 := ⟨Tryz.t114, _, rfl, rfl, rfl, rfl, rfl⟩
def m_r01_Norm_J1 (ab : (List Int)) (aa : Int) (kk_L1 : (Int → Option (List Int))) (ac : Bool) : Option (List Int) :=
  if ac = true then (kk_L1 (IntKind.i64.wrap (aa - 1))) else (chk ((0 : Int) ≤ aa ∧ aa ≤ (ab.length : Int)) (chk ((([] : List Int).length + (ab.take (Int.toNat aa)).length) * 4 ≤ 140737488355328 ∧ ([] : List Int).length + (ab.take (Int.toNat aa)).length ≤ maxLen) (some (([] : List Int) ++ (ab.take (Int.toNat aa))))))
def m_r01_Norm_L1 (N : Nat) (aa : (List Int)) : Nat → Int → Option (List Int)
  | 0, _ => none
  | ac + 1, ab => if (decide (0 < ab)) = true then ((at? aa (IntKind.i64.wrap (ab - 1))).bind fun ad => m_r01_Norm_J1 aa ab (m_r01_Norm_L1 N aa ac) (decide (ad = 0))) else (m_r01_Norm_J1 aa ab (m_r01_Norm_L1 N aa ac) false)
termination_by structural x => x
def m_r01_Norm (N : Nat) (aa : (List Int)) : Option (List Int) :=
  m_r01_Norm_L1 N aa N (aa.length : Int)
theorem c_r01_Norm (N : Nat) (c1 : Nat) (col : Col) (w0 : World) (a0 : Option Addr) (cap0 : Nat) (ab : (List Int)) (h0 : Sl (Rep.int .u32) col w0 a0 cap0 ab) (r : (List Int)) (hm : m_r01_Norm N ab = some r) :
    Calls Tryz.prog 159 #[(.slice a0 ab.length cap0)] w0 (fun e w' => ∃ (col' : Col) (ra1 : Option Addr) (rc2 : Nat), e = .returned ((.slice ra1 r.length rc2)) ∧ Grow col w0 col' w' ∧ Own (Rep.int .u32) 114 c1 col' w' ra1 rc2 r) := by
 refine calls_of1 2 (m := 24) (args := [(.slice a0 ab.length cap0)]) Tryz.func159 rfl rfl rfl rfl rfl ?_
 rw [m_r01_Norm.eq_1] at hm
 have hst := St.start col w0
 refine wS <| wR <| lA (.slice none (([] : List Int).length) 0) <| lN <| wS <| wR <| lM (.slice a0 ab.length cap0) <| lV (.int .i64 (ab.length : Int)) (r_len Tryz.underlying36 rfl) <| lA (.int .i64 (ab.length : Int)) <| lN <| wS <| wB ?_
 replace h0 := h0.keep (Stay.start col w0)
 refine wloop (fun n f ak => ∃ (ae : Col) (aa : Int) (ad : Nat), ad = n ∧ m_r01_Norm_L1 N ab ad aa = some r ∧ St w0 (col0 col) ae ak ∧ Sl (Rep.int .u32) ae ak a0 cap0 ab ∧ f 0 = (.slice a0 ab.length cap0) ∧ f 3 = (.int .i64 aa) ∧ f 1000000 = (enc [])) N ⟨(col0 col), (ab.length : Int), N, rfl, hm, hst, h0, rfl, rfl, rfl⟩ ?_
 clear hm; intro n f ak hI
 obtain ⟨ae, aa, ad, hn, hm, hst, h0, hs0, hs3, hs1000000⟩ := hI
 subst hn
 refine .lD 0 hs0 <| .lD 3 hs3 <| .lD 1000000 hs1000000 ?_
 clear hs0 hs3 hs1000000
 cases ad with
 | zero => rw [m_r01_Norm_L1.eq_1] at hm; cases hm
 | succ ad =>
  rw [m_r01_Norm_L1.eq_2] at hm
  refine wS <| wS ?_
  refine Wp.cut (fun f ah => ∃ (af : Col) (ai : Bool), m_r01_Norm_J1 ab aa (m_r01_Norm_L1 N ab ad) ai = some r ∧ St w0 (col0 col) af ah ∧ Sl (Rep.int .u32) af ah a0 cap0 ab ∧ f 0 = (.slice a0 ab.length cap0) ∧ f 16 = (.bool ai) ∧ f 3 = (.int .i64 aa) ∧ f 1000000 = (enc [])) ?_ ?_
  ·intro f ah hJ
   obtain ⟨af, ai, hm, hst, h0, hs0, hs16, hs3, hs1000000⟩ := hJ
   rw [m_r01_Norm_J1.eq_1] at hm
   refine .lD 0 hs0 <| .lD 16 hs16 <| .lD 3 hs3 <| .lD 1000000 hs1000000 ?_
   clear hs0 hs16 hs3 hs1000000
   refine wcond (ai) rfl (fun hb => ?_) (fun hb => ?_)
   ·rw [if_pos hb] at hm
    clear hb
    refine wK <| wB <| wR <| lM (.int .i64 aa) <| lV (.int .i64 (IntKind.i64.wrap (aa - 1))) (r_sub aa 1 rfl rfl) <| lA (.int .i64 (IntKind.i64.wrap (aa - 1))) <| lN ?_
    exact ⟨ad, by omega, ⟨af, (IntKind.i64.wrap (aa - 1)), ad, rfl, hm, hst, h0, rfl, rfl, rfl⟩⟩
   rw [if_neg (by rw [hb]; decide)] at hm
   clear hb
   refine wexit (inB_hit ?_)
   refine wS <| wR <| lA (.slice none (([] : List Int).length) 0) <| lN <| wS <| wR <| lM (.slice none (([] : List Int).length) 0) <| lM (.slice a0 ab.length cap0) <| lM (.int .i64 aa) ?_
   obtain ⟨al, hm⟩ := cS hm
   refine lv (v := .slice a0 (Int.toNat aa) cap0) rfl rfl (r_sliceH Tryz.underlying36 Tryz.sizeOf114 rfl rfl al.1 (by have := h0.1.2; have := al.2; omega)) ?_
   refine .ld (d := 22) (v := (.slice a0 ((ab.take (Int.toNat aa)).length) cap0)) (congrArg (fun n => Value.slice a0 n cap0) (List.length_take_of_le (show (Int.toNat aa) ≤ ab.length by have := al.2; omega)).symm) ?_
   obtain ⟨am, hm⟩ := cS hm
   refine l_appendM (col := af) (w := ah) (r := (Rep.int .u32)) (c := 1) (c2 := 1) (xs := ([] : List Int)) (ys := ab.take (Int.toNat aa)) Own.nil (h0.take (Int.toNat aa)).srcC rfl Tryz.underlying36 el114_159 rfl rfl rfl am.1 am.2 (by decide) ?_
   intro an ao au ap aq ar
   refine lA (.slice an ((([] : List Int) ++ (ab.take (Int.toNat aa))).length) ao) <| lN ?_
   refine wret ?_
   cases hm
   replace hst := hst.kpp aq
   exact ⟨rfl, colF w0.heap.size col ap (fun n => bif Nat.beq n 1 then c1 else 0), an, ao, rfl, hst.fin (fun n => bif Nat.beq n 1 then c1 else 0), hst.finOwn (g := (fun n => bif Nat.beq n 1 then c1 else 0)) rfl ar (by decide) (by decide) rfl⟩
  refine wR <| lM (.int .i64 aa) <| lV (.bool (decide (0 < aa))) (r_gtr aa 0 rfl rfl) <| lM (.bool (decide (0 < aa))) ?_
  by_cases ac : (decide (0 < aa)) = true
  ·rw [if_pos ac] at hm
   refine lg (b := decide (0 < aa)) 9 rfl rfl rfl (by rw [ac]; rfl) ?_
   refine lM (.slice a0 ab.length cap0) ?_
   refine lg (b := decide (0 < aa)) 9 rfl rfl rfl (by rw [ac]; rfl) ?_
   refine lM (.int .i64 aa) ?_
   refine lg (b := decide (0 < aa)) 9 rfl rfl rfl (by rw [ac]; rfl) ?_
   refine lV (.int .i64 (IntKind.i64.wrap (aa - 1))) (r_sub aa 1 rfl rfl) ?_
   refine lg (b := decide (0 < aa)) 9 rfl rfl rfl (by rw [ac]; rfl) ?_
   obtain ⟨ag, aj, hm⟩ := bS hm
   refine lV (sptr a0 (Int.toNat (IntKind.i64.wrap (aa - 1)) * 1)) (r_idx Tryz.underlying36 Tryz.sizeOf114 rfl rfl (at?_some aj).1 (at?_some aj).2.1 (h0.addr aj)) ?_
   refine lg (b := decide (0 < aa)) 9 rfl rfl rfl (by rw [ac]; rfl) ?_
   refine lV (.int .u32 ag) (r_ld Tryz.isAgg114 rfl (h0.atInt aj)) ?_
   refine lg (b := decide (0 < aa)) 9 rfl rfl rfl (by rw [ac]; rfl) ?_
   refine lV (.bool (decide (ag = 0))) (r_eql ag 0 rfl rfl) <| lV (.bool (decide (ag = 0))) (r_pickT (congrArg Value.bool ac) rfl) <| lN ?_
   exact ⟨ae, (decide (ag = 0)), hm, hst, h0, rfl, rfl, rfl, rfl⟩
  rw [if_neg ac] at hm
  replace ac := Bool.eq_false_iff.2 ac
  refine lp (b := decide (0 < aa)) 9 rfl rfl rfl rfl (by rw [ac]; rfl) ?_
  refine lp (b := decide (0 < aa)) 9 rfl rfl rfl rfl (by rw [ac]; rfl) ?_
  refine lp (b := decide (0 < aa)) 9 rfl rfl rfl rfl (by rw [ac]; rfl) ?_
  refine lp (b := decide (0 < aa)) 9 rfl rfl rfl rfl (by rw [ac]; rfl) ?_
  refine lp (b := decide (0 < aa)) 9 rfl rfl rfl rfl (by rw [ac]; rfl) ?_
  refine lp (b := decide (0 < aa)) 9 rfl rfl rfl rfl (by rw [ac]; rfl) ?_
  refine lV (.bool false) (r_pickF (congrArg Value.bool ac) rfl) <| lN ?_
  exact ⟨ae, false, hm, hst, h0, rfl, rfl, rfl, rfl⟩
def m_r03_den (N : Nat) (ab : ((Bool × (List Int)) × (List Int))) : Option (List Int) :=
  (m_r01_Norm N ab.2).bind fun aa => if (decide ((aa.length : Int) = 0)) = true then none else (some aa)
theorem c_r03_den (N : Nat) (c1 : Nat) (col : Col) (w0 : World) (ae : Option Addr) (af : Nat) (ac : Option Addr) (ad : Nat) (aa : ((Bool × (List Int)) × (List Int))) (au : Sl (Rep.int .u32) col w0 ae af aa.1.2) (ai : Sl (Rep.int .u32) col w0 ac ad aa.2) (r : (List Int)) (hm : m_r03_den N aa = some r) :
    Calls Tryz.prog 135 #[(.agg #[(.bool aa.1.1), (.slice ae aa.1.2.length af), (.slice ac aa.2.length ad)])] w0 (fun e w' => ∃ (col' : Col) (ra1 : Option Addr) (rc2 : Nat), e = .returned ((.slice ra1 r.length rc2)) ∧ Grow col w0 col' w' ∧ Own (Rep.int .u32) 114 c1 col' w' ra1 rc2 r) := by
 refine calls_of1 2 (m := 12) (args := [(.agg #[(.bool aa.1.1), (.slice ae aa.1.2.length af), (.slice ac aa.2.length ad)])]) Tryz.func135 rfl rfl rfl rfl rfl ?_
 rw [m_r03_den.eq_1] at hm
 have hst := St.start col w0
 refine wS <| wR ?_
 refine l_box (col := (col0 col)) (v := (.agg #[(.bool aa.1.1), (.slice ae aa.1.2.length af), (.slice ac aa.2.length ad)])) 1 rfl rfl ?_
 intro ak an al am aj
 replace aj : Box 40 1 al an ak #[(.bool aa.1.1), (.slice ae aa.1.2.length af), (.slice ac aa.2.length ad)] := aj
 refine lA (.slice none (([] : List Int).length) 0) <| lN <| wS <| wR <| lV (.pointer ((some (⟨ak, 0, none⟩ : Addr)).map (·.add 2))) (rF (sz := 1) (off := 2) Tryz.underlying40 rfl Tryz.sizeOf36 (by decide) rfl rfl ⟨_, _, rfl⟩) <| lV (.slice ac aa.2.length ad) (r_ld Tryz.isAgg36 rfl ((aj.atN).nth (q := 2) (v := (.slice ac aa.2.length ad)) rfl)) ?_
 obtain ⟨ab, ao, hm⟩ := bS hm
 replace ai := (ai.keep (Stay.start col w0)).gr am
 refine lc rfl rfl (r_call1 Tryz.call159 rfl) (c_r01_Norm N 2 al _ ac ad aa.2 ai ab ao) ?_
 rintro _ av ⟨ap, ag, ah, rfl, aq, ar⟩
 refine ⟨_, rfl, ?_⟩
 refine lA (.slice ag ab.length ah) <| lN <| wS <| wS <| wR <| lM (.slice ag ab.length ah) <| lV (.int .i64 (ab.length : Int)) (r_len Tryz.underlying36 rfl) <| lV (.bool (decide ((ab.length : Int) = 0))) (r_eql (ab.length : Int) 0 rfl rfl) <| lN ?_
 replace hst := (hst.grow am).grow aq
 refine wcond (decide ((ab.length : Int) = 0)) rfl (fun hb => ?_) (fun hb => ?_)
 ·rw [if_pos hb] at hm
  clear hb
  cases hm
 rw [if_neg (by rw [hb]; decide)] at hm
 clear hb
 refine wK <| wS <| wR <| lM (.slice ag ab.length ah) <| lA (.slice ag ab.length ah) <| lN ?_
 refine wret ?_
 cases hm
 exact ⟨rfl, colF w0.heap.size col ap (fun n => bif Nat.beq n 2 then c1 else 0), ag, ah, rfl, hst.fin (fun n => bif Nat.beq n 2 then c1 else 0), hst.finOwn (g := (fun n => bif Nat.beq n 2 then c1 else 0)) rfl ar (by decide) (by decide) rfl⟩
def m_r03_whole (aa : (List Int)) : Option (Bool × (List Int)) :=
  some (false, aa)
theorem c_r03_whole (col : Col) (w0 : World) (a0 : Option Addr) (cap0 : Nat) (aa : (List Int)) (h0 : Sl (Rep.int .u32) col w0 a0 cap0 aa) (r : (Bool × (List Int))) (hm : m_r03_whole aa = some r) :
    Calls Tryz.prog 134 #[(.slice a0 aa.length cap0)] w0 (fun e w' => ∃ (col' : Col) (ra1 : Option Addr) (rc2 : Nat), e = .returned ((.agg #[(.bool r.1), (.slice ra1 r.2.length rc2)])) ∧ Grow col w0 col' w' ∧ Sl (Rep.int .u32) col' w' ra1 rc2 r.2) := by
 refine calls_ofR (m := 5) (args := [(.slice a0 aa.length cap0)]) Tryz.func134 rfl rfl rfl ?_
 rw [m_r03_whole.eq_1] at hm
 have hst := St.start col w0
 refine wS <| wR ?_
 refine l_alloc (col := (col0 col)) (v := (.agg #[(.bool false), (.slice none (([] : List Int).length) 0)])) 1 rfl Tryz.zeroValue38 ?_
 intro ae ah ac af ab
 replace ab : Box 38 1 ac ah ae #[(.bool false), (.slice none (([] : List Int).length) 0)] := ab
 refine lN <| wS <| wR <| lM (.slice a0 aa.length cap0) <| lV (.agg #[(.bool false), (.slice a0 aa.length cap0)]) (r_build (l := [_, _]) (qs := [(0, 1), (1, 1)]) Tryz.underlying38 Tryz.zeroValue38 ⟨rfl, Tryz.sizeOf4, rfl, Tryz.sizeOf36, trivial⟩ rfl) ?_
 refine l_bstore (v := (.agg #[(.bool false), (.slice a0 aa.length cap0)])) ab Tryz.sizeOf38 rfl rfl (by intro u hu; simp only [Value.cells, List.mem_cons, List.not_mem_nil, or_false] at hu; rcases hu with rfl | rfl <;> rfl) rfl rfl ?_
 intro ai ag aj ad
 clear ab
 replace ad : Box 38 1 ac ai ae #[(.bool false), (.slice a0 aa.length cap0)] := ad
 refine lN ?_
 refine wret ?_
 cases hm
 replace h0 := ((h0.keep (Stay.start col w0)).gr af).kp ag
 replace hst := (hst.grow af).kp ag aj
 exact ⟨rfl, _, res_a rfl rfl Tryz.isAgg38 Tryz.sizeOf38 rfl rfl ad.atN, colF w0.heap.size col ac (fun n => 0), a0, cap0, rfl, hst.fin (fun n => 0), hst.finSl (g := (fun n => 0)) rfl h0⟩
def m_r01_Mul_L2 (N : Nat) (af : (List Int)) (ab : (List Int)) (aa : Int) (kk_L1 : ((List Int) → Int → Option (List Int))) : Nat → Int → (List Int) → Int → Option (List Int)
  | 0, _, _, _ => none
  | aj + 1, ac, ad, ae => if (decide (ac < (ab.length : Int))) = true then ((at? af aa).bind fun ag => (at? ab ac).bind fun ah => (at? ad (IntKind.i64.wrap (aa + ac))).bind fun ai => (some (ad.set (Int.toNat (IntKind.i64.wrap (aa + ac))) (IntKind.u32.wrap (Int.tmod (IntKind.u64.wrap ((IntKind.u64.wrap (ae + (IntKind.u64.wrap ((IntKind.u64.wrap ag) * (IntKind.u64.wrap ah))))) + (IntKind.u64.wrap ai))) 4294967296)))).bind fun ak => (m_r01_Mul_L2 N af ab aa kk_L1 aj) (IntKind.i64.wrap (ac + 1)) ak (IntKind.u64.wrap (Int.tdiv (IntKind.u64.wrap ((IntKind.u64.wrap (ae + (IntKind.u64.wrap ((IntKind.u64.wrap ag) * (IntKind.u64.wrap ah))))) + (IntKind.u64.wrap ai))) 4294967296))) else ((at? ad (IntKind.i64.wrap (aa + (ab.length : Int)))).bind fun am => (some (ad.set (Int.toNat (IntKind.i64.wrap (aa + (ab.length : Int)))) (IntKind.u32.wrap ae))).bind fun al => kk_L1 al (IntKind.i64.wrap (aa + 1)))
termination_by structural x => x
def m_r01_Mul_L1 (N : Nat) (aa : (List Int)) (ab : (List Int)) : Nat → (List Int) → Int → Option (List Int)
  | 0, _, _ => none
  | ae + 1, ac, ad => if (decide (ad < (aa.length : Int))) = true then (m_r01_Mul_L2 N aa ab ad (m_r01_Mul_L1 N aa ab ae) N 0 ac 0) else ((m_r01_Norm N ac).bind fun af => some af)
termination_by structural x => x
def m_r01_Mul (N : Nat) (ac : (List Int)) (ad : (List Int)) : Option (List Int) :=
  (m_r01_Norm N ac).bind fun aa => (m_r01_Norm N ad).bind fun ab => chk ((Int.toNat (IntKind.i64.wrap ((aa.length : Int) + (ab.length : Int)))) * 4 ≤ 281474976710656 ∧ (Int.toNat (IntKind.i64.wrap ((aa.length : Int) + (ab.length : Int)))) ≤ maxLen ∧ 0 ≤ (IntKind.i64.wrap ((aa.length : Int) + (ab.length : Int)))) (m_r01_Mul_L1 N aa ab N (List.replicate (Int.toNat (IntKind.i64.wrap ((aa.length : Int) + (ab.length : Int)))) (0 : Int)) 0)
theorem c_r01_Mul (N : Nat) (c1 : Nat) (col : Col) (w0 : World) (a0 : Option Addr) (cap0 : Nat) (a2 : (List Int)) (a1 : Option Addr) (cap1 : Nat) (a3 : (List Int)) (h0 : Sl (Rep.int .u32) col w0 a0 cap0 a2) (h1 : Sl (Rep.int .u32) col w0 a1 cap1 a3) (r : (List Int)) (hm : m_r01_Mul N a2 a3 = some r) :
    Calls Tryz.prog 158 #[(.slice a0 a2.length cap0), (.slice a1 a3.length cap1)] w0 (fun e w' => ∃ (col' : Col) (ra1 : Option Addr) (rc2 : Nat), e = .returned ((.slice ra1 r.length rc2)) ∧ Grow col w0 col' w' ∧ Own (Rep.int .u32) 114 c1 col' w' ra1 rc2 r) := by
 refine calls_of1 4 (m := 74) (args := [(.slice a0 a2.length cap0), (.slice a1 a3.length cap1)]) Tryz.func158 rfl rfl rfl rfl rfl ?_
 rw [m_r01_Mul.eq_1] at hm
 have hst := St.start col w0
 refine wS <| wR <| lA (.slice none (([] : List Int).length) 0) <| lN <| wS <| wR <| lM (.slice a0 a2.length cap0) ?_
 obtain ⟨ad, bu, hm⟩ := bS hm
 replace h0 := h0.keep (Stay.start col w0)
 refine lc rfl rfl (r_call1 Tryz.call159 rfl) (c_r01_Norm N 1 (col0 col) _ a0 cap0 a2 h0 ad bu) ?_
 rintro _ b8 ⟨bv, ar, av, rfl, bl, aj⟩
 refine ⟨_, rfl, ?_⟩
 refine lA (.slice ar ad.length av) <| lN <| wS <| wR <| lM (.slice a1 a3.length cap1) ?_
 obtain ⟨aa, bw, hm⟩ := bS hm
 replace h1 := (h1.keep (Stay.start col w0)).gr bl
 refine lc rfl rfl (r_call1 Tryz.call159 rfl) (c_r01_Norm N 2 bv _ a1 cap1 a3 h1 aa bw) ?_
 rintro _ bx ⟨bz, ao, au, rfl, bm, ak⟩
 refine ⟨_, rfl, ?_⟩
 refine lA (.slice ao aa.length au) <| lN <| wS <| wR <| lM (.slice ar ad.length av) <| lV (.int .i64 (ad.length : Int)) (r_len Tryz.underlying36 rfl) <| lM (.slice ao aa.length au) <| lV (.int .i64 (aa.length : Int)) (r_len Tryz.underlying36 rfl) <| lV (.int .i64 (IntKind.i64.wrap ((ad.length : Int) + (aa.length : Int)))) (r_add (ad.length : Int) (aa.length : Int) rfl rfl) ?_
 obtain ⟨a8, hm⟩ := cS hm
 refine l_make (col := bz) (w := bx) (r := (Rep.int .u32)) (n := (Int.toNat (IntKind.i64.wrap ((ad.length : Int) + (aa.length : Int))))) (x0 := 0) 3 rfl Tryz.underlying36 Tryz.t114 rfl rfl rfl rfl rfl (congrArg (Value.int _) (Int.toNat_of_nonneg a8.2.2).symm) (congrArg (Value.int _) (Int.toNat_of_nonneg a8.2.2).symm) a8.1 a8.2.1 (rd_int .u32 0) ?_
 intro bn b9 b0 bh b1
 refine lA (.slice bn ((List.replicate (Int.toNat (IntKind.i64.wrap ((ad.length : Int) + (aa.length : Int)))) (0 : Int)).length) (Int.toNat (IntKind.i64.wrap ((ad.length : Int) + (aa.length : Int))))) <| lN <| wS <| wS <| wR <| lA (.int .i64 0) <| lN <| wB ?_
 replace hst := ((hst.grow bl).grow bm).grow bh
 replace aj := (aj.gr bm).gr bh
 replace ak := ak.gr bh
 refine wloop (fun n f a4 => ∃ (ap : Col) (a5 : Option Addr) (a6 : Nat) (ay : List Int) (ab : Int) (aw : Nat), aw = n ∧ m_r01_Mul_L1 N ad aa aw ay ab = some r ∧ St w0 (col0 col) ap a4 ∧ Own (Rep.int .u32) 114 1 ap a4 ar av ad ∧ Own (Rep.int .u32) 114 2 ap a4 ao au aa ∧ Own (Rep.int .u32) 114 3 ap a4 a5 a6 ay ∧ f 5 = (.slice ar ad.length av) ∧ f 6 = (.slice ao aa.length au) ∧ f 7 = (.slice a5 ay.length a6) ∧ f 8 = (.int .i64 ab) ∧ f 1000000 = (enc [])) N ⟨b0, bn, (Int.toNat (IntKind.i64.wrap ((ad.length : Int) + (aa.length : Int)))), (List.replicate (Int.toNat (IntKind.i64.wrap ((ad.length : Int) + (aa.length : Int)))) (0 : Int)), 0, N, rfl, hm, hst, aj, ak, b1, rfl, rfl, rfl, rfl, rfl⟩ ?_
 clear hm; intro n f a4 hI
 obtain ⟨ap, a5, a6, ay, ab, aw, hn, hm, hst, aj, ak, bo, hs5, hs6, hs7, hs8, hs1000000⟩ := hI
 subst hn
 refine .lD 5 hs5 <| .lD 6 hs6 <| .lD 7 hs7 <| .lD 8 hs8 <| .lD 1000000 hs1000000 ?_
 clear hs5 hs6 hs7 hs8 hs1000000
 cases aw with
 | zero => rw [m_r01_Mul_L1.eq_1] at hm; cases hm
 | succ aw =>
  rw [m_r01_Mul_L1.eq_2] at hm
  refine wS <| wS <| wR <| lM (.int .i64 ab) <| lM (.slice ar ad.length av) <| lV (.int .i64 (ad.length : Int)) (r_len Tryz.underlying36 rfl) <| lV (.bool (decide (ab < (ad.length : Int)))) (r_lss ab (ad.length : Int) rfl rfl) <| lN ?_
  refine wcond (decide (ab < (ad.length : Int))) rfl (fun hb => ?_) (fun hb => ?_)
  ·rw [if_pos hb] at hm
   clear hb
   refine wK <| wS <| wB <| wS <| wR <| lA (.int .u64 0) <| lN <| wS <| wS <| wR <| lA (.int .i64 0) <| lN <| wB ?_
   refine wloop (fun n f a7 => ∃ (al : Col) (ag : Int) (ai : Option Addr) (am : Nat) (an : List Int) (ac : Int) (az : Nat), az = n ∧ m_r01_Mul_L2 N ad aa ab (m_r01_Mul_L1 N ad aa aw) az ag an ac = some r ∧ St w0 (col0 col) al a7 ∧ Own (Rep.int .u32) 114 1 al a7 ar av ad ∧ Own (Rep.int .u32) 114 2 al a7 ao au aa ∧ Own (Rep.int .u32) 114 3 al a7 ai am an ∧ f 10 = (.int .i64 ag) ∧ f 5 = (.slice ar ad.length av) ∧ f 6 = (.slice ao aa.length au) ∧ f 7 = (.slice ai an.length am) ∧ f 8 = (.int .i64 ab) ∧ f 9 = (.int .u64 ac) ∧ f 1000000 = (enc [])) N ⟨ap, 0, a5, a6, ay, 0, N, rfl, hm, hst, aj, ak, bo, rfl, rfl, rfl, rfl, rfl, rfl, rfl⟩ ?_
   clear hm; intro n f a7 hI
   obtain ⟨al, ag, ai, am, an, ac, az, hn, hm, hst, aj, ak, aq, hs10, hs5, hs6, hs7, hs8, hs9, hs1000000⟩ := hI
   subst hn
   refine .lD 10 hs10 <| .lD 5 hs5 <| .lD 6 hs6 <| .lD 7 hs7 <| .lD 8 hs8 <| .lD 9 hs9 <| .lD 1000000 hs1000000 ?_
   clear hs10 hs5 hs6 hs7 hs8 hs9 hs1000000
   cases az with
   | zero => rw [m_r01_Mul_L2.eq_1] at hm; cases hm
   | succ az =>
    rw [m_r01_Mul_L2.eq_2] at hm
    refine wS <| wS <| wR <| lM (.int .i64 ag) <| lM (.slice ao aa.length au) <| lV (.int .i64 (aa.length : Int)) (r_len Tryz.underlying36 rfl) <| lV (.bool (decide (ag < (aa.length : Int)))) (r_lss ag (aa.length : Int) rfl rfl) <| lN ?_
    refine wcond (decide (ag < (aa.length : Int))) rfl (fun hb => ?_) (fun hb => ?_)
    ·rw [if_pos hb] at hm
     clear hb
     refine wK <| wS <| wB <| wS ?_
     refine wquiet (col := al) (by kernel_rfl) (by kernel_rfl) ?_
     refine qv (v := (.int .u64 ac)) rfl (fun _ hC => r_move rfl) ?_
     refine qv (v := (.slice ar ad.length av)) rfl (fun _ hC => r_move rfl) ?_
     refine qv (v := (.int .i64 ab)) rfl (fun _ hC => r_move rfl) ?_
     obtain ⟨ae, a9, hm⟩ := bS hm
     refine qv (v := (sptr ar (Int.toNat ab * 1))) rfl (fun _ hC => r_idx Tryz.underlying36 Tryz.sizeOf114 rfl rfl (at?_some a9).1 (at?_some a9).2.1 (aj.addr a9)) ?_
     refine qv (v := (.int .u32 ae)) rfl (fun _ hC => r_ld Tryz.isAgg114 rfl ((aj.gr (Grow.of_below (col := al) hC.below)).atInt a9)) ?_
     refine qv (v := (.int .u64 (IntKind.u64.wrap ae))) rfl (fun _ hC => r_conv ae ⟨_, Tryz.underlying114⟩ Tryz.underlying108 rfl) ?_
     refine qv (v := (.slice ao aa.length au)) rfl (fun _ hC => r_move rfl) ?_
     refine qv (v := (.int .i64 ag)) rfl (fun _ hC => r_move rfl) ?_
     obtain ⟨af, ba, hm⟩ := bS hm
     refine qv (v := (sptr ao (Int.toNat ag * 1))) rfl (fun _ hC => r_idx Tryz.underlying36 Tryz.sizeOf114 rfl rfl (at?_some ba).1 (at?_some ba).2.1 (ak.addr ba)) ?_
     refine qv (v := (.int .u32 af)) rfl (fun _ hC => r_ld Tryz.isAgg114 rfl ((ak.gr (Grow.of_below (col := al) hC.below)).atInt ba)) ?_
     refine qv (v := (.int .u64 (IntKind.u64.wrap af))) rfl (fun _ hC => r_conv af ⟨_, Tryz.underlying114⟩ Tryz.underlying108 rfl) ?_
     refine qv (v := (.int .u64 (IntKind.u64.wrap ((IntKind.u64.wrap ae) * (IntKind.u64.wrap af))))) rfl (fun _ hC => r_mul (IntKind.u64.wrap ae) (IntKind.u64.wrap af) rfl rfl) ?_
     refine qv (v := (.int .u64 (IntKind.u64.wrap (ac + (IntKind.u64.wrap ((IntKind.u64.wrap ae) * (IntKind.u64.wrap af))))))) rfl (fun _ hC => r_add ac (IntKind.u64.wrap ((IntKind.u64.wrap ae) * (IntKind.u64.wrap af))) rfl rfl) ?_
     refine qv (v := (.slice ai an.length am)) rfl (fun _ hC => r_move rfl) ?_
     refine qv (v := (.int .i64 ab)) rfl (fun _ hC => r_move rfl) ?_
     refine qv (v := (.int .i64 ag)) rfl (fun _ hC => r_move rfl) ?_
     refine qv (v := (.int .i64 (IntKind.i64.wrap (ab + ag)))) rfl (fun _ hC => r_add ab ag rfl rfl) ?_
     obtain ⟨ah, ax, hm⟩ := bS hm
     refine qv (v := (sptr ai (Int.toNat (IntKind.i64.wrap (ab + ag)) * 1))) rfl (fun _ hC => r_idx Tryz.underlying36 Tryz.sizeOf114 rfl rfl (at?_some ax).1 (at?_some ax).2.1 (aq.addr ax)) ?_
     refine qv (v := (.int .u32 ah)) rfl (fun _ hC => r_ld Tryz.isAgg114 rfl ((aq.gr (Grow.of_below (col := al) hC.below)).atInt ax)) ?_
     refine qv (v := (.int .u64 (IntKind.u64.wrap ah))) rfl (fun _ hC => r_conv ah ⟨_, Tryz.underlying114⟩ Tryz.underlying108 rfl) ?_
     refine qv (v := (.int .u64 (IntKind.u64.wrap ((IntKind.u64.wrap (ac + (IntKind.u64.wrap ((IntKind.u64.wrap ae) * (IntKind.u64.wrap af))))) + (IntKind.u64.wrap ah))))) rfl (fun _ hC => r_add (IntKind.u64.wrap (ac + (IntKind.u64.wrap ((IntKind.u64.wrap ae) * (IntKind.u64.wrap af))))) (IntKind.u64.wrap ah) rfl rfl) ?_
     refine qv (v := (.int .u64 (IntKind.u64.wrap ((IntKind.u64.wrap (ac + (IntKind.u64.wrap ((IntKind.u64.wrap ae) * (IntKind.u64.wrap af))))) + (IntKind.u64.wrap ah))))) rfl (fun _ hC => r_assign rfl) ?_
     refine qnil ?_
     intro b2 hC
     replace hC : Grow al a7 al b2 := .of_below hC.below
     refine wS <| wR <| lM (.slice ai an.length am) <| lM (.int .i64 ab) <| lM (.int .i64 ag) <| lV (.int .i64 (IntKind.i64.wrap (ab + ag))) (r_add ab ag rfl rfl) <| lM (.int .u64 (IntKind.u64.wrap ((IntKind.u64.wrap (ac + (IntKind.u64.wrap ((IntKind.u64.wrap ae) * (IntKind.u64.wrap af))))) + (IntKind.u64.wrap ah)))) <| lV (.int .u64 (Int.tmod (IntKind.u64.wrap ((IntKind.u64.wrap (ac + (IntKind.u64.wrap ((IntKind.u64.wrap ae) * (IntKind.u64.wrap af))))) + (IntKind.u64.wrap ah))) 4294967296)) (r_rem (IntKind.u64.wrap ((IntKind.u64.wrap (ac + (IntKind.u64.wrap ((IntKind.u64.wrap ae) * (IntKind.u64.wrap af))))) + (IntKind.u64.wrap ah))) 4294967296 rfl rfl (by decide)) <| lV (.int .u32 (IntKind.u32.wrap (Int.tmod (IntKind.u64.wrap ((IntKind.u64.wrap (ac + (IntKind.u64.wrap ((IntKind.u64.wrap ae) * (IntKind.u64.wrap af))))) + (IntKind.u64.wrap ah))) 4294967296))) (r_conv (Int.tmod (IntKind.u64.wrap ((IntKind.u64.wrap (ac + (IntKind.u64.wrap ((IntKind.u64.wrap ae) * (IntKind.u64.wrap af))))) + (IntKind.u64.wrap ah))) 4294967296) ⟨_, Tryz.underlying108⟩ Tryz.underlying114 rfl) ?_
     replace aq := aq.gr hC
     refine lV (sptr ai (Int.toNat (IntKind.i64.wrap (ab + ag)) * 1)) (r_idx Tryz.underlying36 Tryz.sizeOf114 rfl rfl (at?_some ax).1 (at?_some ax).2.1 (aq.addr ax)) ?_
     obtain ⟨bb, bc, hm⟩ := bS hm
     have bc : bb = an.set (Int.toNat (IntKind.i64.wrap (ab + ag))) (IntKind.u32.wrap (Int.tmod (IntKind.u64.wrap ((IntKind.u64.wrap (ac + (IntKind.u64.wrap ((IntKind.u64.wrap ae) * (IntKind.u64.wrap af))))) + (IntKind.u64.wrap ah))) 4294967296)) := (Option.some.inj bc).symm
     refine l_store (x1 := IntKind.u32.wrap (Int.tmod (IntKind.u64.wrap ((IntKind.u64.wrap (ac + (IntKind.u64.wrap ((IntKind.u64.wrap ae) * (IntKind.u64.wrap af))))) + (IntKind.u64.wrap ah))) 4294967296)) (v := (.int .u32 (IntKind.u32.wrap (Int.tmod (IntKind.u64.wrap ((IntKind.u64.wrap (ac + (IntKind.u64.wrap ((IntKind.u64.wrap ae) * (IntKind.u64.wrap af))))) + (IntKind.u64.wrap ah))) 4294967296)))) aq ax rfl Tryz.sizeOf114 (rd_int .u32 (IntKind.u32.wrap (Int.tmod (IntKind.u64.wrap ((IntKind.u64.wrap (ac + (IntKind.u64.wrap ((IntKind.u64.wrap ae) * (IntKind.u64.wrap af))))) + (IntKind.u64.wrap ah))) 4294967296))) rfl rfl (by decide) ?_
     intro ca bi b3 bp
     rw [← bc] at bp
     refine .ld (d := 7) (v := (.slice ai bb.length am)) (congrArg (fun n => Value.slice ai n am) (show an.length = bb.length by rw [bc, List.length_set])) ?_
     clear aq
     refine lN <| wR <| lM (.int .u64 (IntKind.u64.wrap ((IntKind.u64.wrap (ac + (IntKind.u64.wrap ((IntKind.u64.wrap ae) * (IntKind.u64.wrap af))))) + (IntKind.u64.wrap ah)))) <| lV (.int .u64 (IntKind.u64.wrap (Int.tdiv (IntKind.u64.wrap ((IntKind.u64.wrap (ac + (IntKind.u64.wrap ((IntKind.u64.wrap ae) * (IntKind.u64.wrap af))))) + (IntKind.u64.wrap ah))) 4294967296))) (r_quo (IntKind.u64.wrap ((IntKind.u64.wrap (ac + (IntKind.u64.wrap ((IntKind.u64.wrap ae) * (IntKind.u64.wrap af))))) + (IntKind.u64.wrap ah))) 4294967296 rfl rfl (by decide)) <| lA (.int .u64 (IntKind.u64.wrap (Int.tdiv (IntKind.u64.wrap ((IntKind.u64.wrap (ac + (IntKind.u64.wrap ((IntKind.u64.wrap ae) * (IntKind.u64.wrap af))))) + (IntKind.u64.wrap ah))) 4294967296))) <| lN <| wR <| lM (.int .i64 ag) <| lV (.int .i64 (IntKind.i64.wrap (ag + 1))) (r_add ag 1 rfl rfl) <| lA (.int .i64 (IntKind.i64.wrap (ag + 1))) <| lN ?_
     replace aj := (aj.gr hC).kp bi
     replace ak := (ak.gr hC).kp bi
     replace hst := (hst.grow hC).kp bi b3
     exact ⟨az, by omega, ⟨al, (IntKind.i64.wrap (ag + 1)), ai, am, bb, (IntKind.u64.wrap (Int.tdiv (IntKind.u64.wrap ((IntKind.u64.wrap (ac + (IntKind.u64.wrap ((IntKind.u64.wrap ae) * (IntKind.u64.wrap af))))) + (IntKind.u64.wrap ah))) 4294967296)), az, rfl, hm, hst, aj, ak, bp, rfl, rfl, rfl, rfl, rfl, rfl, rfl⟩⟩
    rw [if_neg (by rw [hb]; decide)] at hm
    clear hb
    refine wexit (inB_hit ?_)
    refine wR <| lM (.slice ai an.length am) <| lM (.int .i64 ab) <| lM (.slice ao aa.length au) <| lV (.int .i64 (aa.length : Int)) (r_len Tryz.underlying36 rfl) <| lV (.int .i64 (IntKind.i64.wrap (ab + (aa.length : Int)))) (r_add ab (aa.length : Int) rfl rfl) <| lM (.int .u64 ac) <| lV (.int .u32 (IntKind.u32.wrap ac)) (r_conv ac ⟨_, Tryz.underlying108⟩ Tryz.underlying114 rfl) ?_
    obtain ⟨cb, bd, hm⟩ := bS hm
    refine lV (sptr ai (Int.toNat (IntKind.i64.wrap (ab + (aa.length : Int))) * 1)) (r_idx Tryz.underlying36 Tryz.sizeOf114 rfl rfl (at?_some bd).1 (at?_some bd).2.1 (aq.addr bd)) ?_
    obtain ⟨be, bf, hm⟩ := bS hm
    have bf : be = an.set (Int.toNat (IntKind.i64.wrap (ab + (aa.length : Int)))) (IntKind.u32.wrap ac) := (Option.some.inj bf).symm
    refine l_store (x1 := IntKind.u32.wrap ac) (v := (.int .u32 (IntKind.u32.wrap ac))) aq bd rfl Tryz.sizeOf114 (rd_int .u32 (IntKind.u32.wrap ac)) rfl rfl (by decide) ?_
    intro cc bj b4 bq
    rw [← bf] at bq
    refine .ld (d := 7) (v := (.slice ai be.length am)) (congrArg (fun n => Value.slice ai n am) (show an.length = be.length by rw [bf, List.length_set])) ?_
    clear aq
    refine lN <| wR <| lM (.int .i64 ab) <| lV (.int .i64 (IntKind.i64.wrap (ab + 1))) (r_add ab 1 rfl rfl) <| lA (.int .i64 (IntKind.i64.wrap (ab + 1))) <| lN ?_
    replace aj := aj.kp bj
    replace ak := ak.kp bj
    replace hst := hst.kp bj b4
    exact ⟨aw, by omega, ⟨al, ai, am, be, (IntKind.i64.wrap (ab + 1)), aw, rfl, hm, hst, aj, ak, bq, rfl, rfl, rfl, rfl, rfl⟩⟩
  rw [if_neg (by rw [hb]; decide)] at hm
  clear hb
  refine wexit (inB_hit ?_)
  refine wS <| wR <| lM (.slice a5 ay.length a6) ?_
  obtain ⟨br, b5, hm⟩ := bS hm
  refine lc rfl rfl (r_call1 Tryz.call159 rfl) (c_r01_Norm N 4 (frC 3 ap) _ a5 a6 ay (bo.toSlF (Froz.int .u32)) br b5) ?_
  rintro _ cd ⟨b6, bs, bt, rfl, bg, bk⟩
  refine ⟨_, rfl, ?_⟩
  replace bk := bk.thaw (flat_int .u32) bg ((Fz.refl (col := ap)).froz 3) (by decide)
  replace bg := bg.thawR (col := ap)
  generalize colR a4.heap.size ap b6 = b7 at *
  refine lA (.slice bs br.length bt) <| lN ?_
  refine wret ?_
  cases hm
  replace hst := hst.grow bg
  exact ⟨rfl, colF w0.heap.size col b7 (fun n => bif Nat.beq n 4 then c1 else 0), bs, bt, rfl, hst.fin (fun n => bif Nat.beq n 4 then c1 else 0), hst.finOwn (g := (fun n => bif Nat.beq n 4 then c1 else 0)) rfl bk (by decide) (by decide) rfl⟩
def m_r02_Make_J1 (aa : Bool) (ab : List Int) : Option (Bool × (List Int)) :=
  some (aa, ab)
def m_r02_Make (N : Nat) (ab : Bool) (ac : (List Int)) : Option (Bool × (List Int)) :=
  (m_r01_Norm N ac).bind fun aa => if ab = true then (m_r02_Make_J1 (decide (0 < (aa.length : Int))) aa) else (m_r02_Make_J1 false aa)
theorem c_r02_Make (N : Nat) (c1 : Nat) (col : Col) (w0 : World) (ab : Bool) (a1 : Option Addr) (cap1 : Nat) (ah : (List Int)) (h1 : Sl (Rep.int .u32) col w0 a1 cap1 ah) (r : (Bool × (List Int))) (hm : m_r02_Make N ab ah = some r) :
    Calls Tryz.prog 157 #[(.bool ab), (.slice a1 ah.length cap1)] w0 (fun e w' => ∃ (col' : Col) (ra1 : Option Addr) (rc2 : Nat), e = .returned ((.agg #[(.bool r.1), (.slice ra1 r.2.length rc2)])) ∧ Grow col w0 col' w' ∧ Own (Rep.int .u32) 114 c1 col' w' ra1 rc2 r.2) := by
 refine calls_ofR (m := 16) (args := [(.bool ab), (.slice a1 ah.length cap1)]) Tryz.func157 rfl rfl rfl ?_
 rw [m_r02_Make.eq_1] at hm
 have hst := St.start col w0
 refine wS <| wR ?_
 refine l_alloc (col := (col0 col)) (v := (.agg #[(.bool false), (.slice none (([] : List Int).length) 0)])) 1 rfl Tryz.zeroValue38 ?_
 intro ai az au av af
 replace af : Box 38 1 au az ai #[(.bool false), (.slice none (([] : List Int).length) 0)] := af
 refine lN <| wS <| wR <| lM (.slice a1 ah.length cap1) ?_
 obtain ⟨aa, a0, hm⟩ := bS hm
 replace h1 := (h1.keep (Stay.start col w0)).gr av
 refine lc rfl rfl (r_call1 Tryz.call159 rfl) (c_r01_Norm N 2 au _ a1 cap1 ah h1 aa a0) ?_
 rintro _ a7 ⟨am, ac, ad, rfl, aw, ag⟩
 refine ⟨_, rfl, ?_⟩
 refine lA (.slice ac aa.length ad) <| lN <| wS ?_
 replace hst := (hst.grow av).grow aw
 replace af := af.gr aw
 refine Wp.cut (fun f an => ∃ (aj : Col) (ar : Bool) (ao : Option Addr) (ap : Nat) (aq : List Int), m_r02_Make_J1 ar aq = some r ∧ St w0 (col0 col) aj an ∧ Own (Rep.int .u32) 114 3 aj an ao ap aq ∧ Box 38 1 aj an ai #[(.bool ar), (.slice ao aq.length ap)] ∧ f 4 = (.pointer (some ⟨ai, 0, none⟩)) ∧ f 1000000 = (enc [])) ?_ ?_
 ·intro f an hJ
  obtain ⟨aj, ar, ao, ap, aq, hm, hst, a2, af, hs4, hs1000000⟩ := hJ
  rw [m_r02_Make_J1.eq_1] at hm
  refine .lD 4 hs4 <| .lD 1000000 hs1000000 ?_
  clear hs4 hs1000000
  refine wret ?_
  cases hm
  exact ⟨rfl, _, res_a rfl rfl Tryz.isAgg38 Tryz.sizeOf38 rfl rfl af.atN, colF w0.heap.size col aj (fun n => bif Nat.beq n 3 then c1 else 0), ao, ap, rfl, hst.fin (fun n => bif Nat.beq n 3 then c1 else 0), hst.finOwn (g := (fun n => bif Nat.beq n 3 then c1 else 0)) rfl a2 (by decide) (by decide) rfl⟩
 refine wR <| lM (.bool ab) <| lM (.bool ab) ?_
 by_cases ae : ab = true
 ·rw [if_pos ae] at hm
  refine lg (b := ab) 9 rfl rfl rfl (by rw [ae]; rfl) ?_
  refine lM (.slice ac aa.length ad) ?_
  refine lg (b := ab) 9 rfl rfl rfl (by rw [ae]; rfl) ?_
  refine lV (.int .i64 (aa.length : Int)) (r_len Tryz.underlying36 rfl) ?_
  refine lg (b := ab) 9 rfl rfl rfl (by rw [ae]; rfl) ?_
  refine lV (.bool (decide (0 < (aa.length : Int)))) (r_gtr (aa.length : Int) 0 rfl rfl) <| lV (.bool (decide (0 < (aa.length : Int)))) (r_pickT (congrArg Value.bool ae) rfl) <| lM (.slice ac aa.length ad) <| lV (.agg #[(.bool (decide (0 < (aa.length : Int)))), (.slice ac aa.length ad)]) (r_build (l := [_, _]) (qs := [(0, 1), (1, 1)]) Tryz.underlying38 Tryz.zeroValue38 ⟨rfl, Tryz.sizeOf4, rfl, Tryz.sizeOf36, trivial⟩ rfl) ?_
  refine l_bstore (v := (.agg #[(.bool (decide (0 < (aa.length : Int)))), (.slice ac aa.length ad)])) af Tryz.sizeOf38 rfl rfl (by intro u hu; simp only [Value.cells, List.mem_cons, List.not_mem_nil, or_false] at hu; rcases hu with rfl | rfl <;> rfl) rfl rfl ?_
  intro a3 ax a4 ak
  clear af
  replace ak : Box 38 1 am a3 ai #[(.bool (decide (0 < (aa.length : Int)))), (.slice ac aa.length ad)] := ak
  refine lN ?_
  replace ag := ag.kp ax
  replace ag := ag.recolSelf 3 (by decide)
  replace ak := ak.recol 2 3 (by decide)
  replace hst := hst.kp ax a4
  replace hst := hst.recol 2 3 (by decide) (by decide)
  exact ⟨(rcC 2 3 am), (decide (0 < (aa.length : Int))), ac, ad, aa, hm, hst, ag, ak, rfl, rfl⟩
 rw [if_neg ae] at hm
 replace ae := Bool.eq_false_iff.2 ae
 refine lp (b := ab) 9 rfl rfl rfl rfl (by rw [ae]; rfl) ?_
 refine lp (b := ab) 9 rfl rfl rfl rfl (by rw [ae]; rfl) ?_
 refine lp (b := ab) 9 rfl rfl rfl rfl (by rw [ae]; rfl) ?_
 refine lV (.bool false) (r_pickF (congrArg Value.bool ae) rfl) <| lM (.slice ac aa.length ad) <| lV (.agg #[(.bool false), (.slice ac aa.length ad)]) (r_build (l := [_, _]) (qs := [(0, 1), (1, 1)]) Tryz.underlying38 Tryz.zeroValue38 ⟨rfl, Tryz.sizeOf4, rfl, Tryz.sizeOf36, trivial⟩ rfl) ?_
 refine l_bstore (v := (.agg #[(.bool false), (.slice ac aa.length ad)])) af Tryz.sizeOf38 rfl rfl (by intro u hu; simp only [Value.cells, List.mem_cons, List.not_mem_nil, or_false] at hu; rcases hu with rfl | rfl <;> rfl) rfl rfl ?_
 intro a5 ay a6 al
 clear af
 replace al : Box 38 1 am a5 ai #[(.bool false), (.slice ac aa.length ad)] := al
 refine lN ?_
 replace ag := ag.kp ay
 replace ag := ag.recolSelf 3 (by decide)
 replace al := al.recol 2 3 (by decide)
 replace hst := hst.kp ay a6
 replace hst := hst.recol 2 3 (by decide) (by decide)
 exact ⟨(rcC 2 3 am), false, ac, ad, aa, hm, hst, ag, al, rfl, rfl⟩
def m_r02_Mul (N : Nat) (aa : (Bool × (List Int))) (ab : (Bool × (List Int))) : Option (Bool × (List Int)) :=
  (m_r01_Mul N aa.2 ab.2).bind fun ad => (m_r02_Make N (!decide (aa.1 = ab.1)) ad).bind fun ac => some (ac.1, ac.2)
theorem c_r02_Mul (N : Nat) (c1 : Nat) (col : Col) (w0 : World) (af : Option Addr) (ag : Nat) (aa : (Bool × (List Int))) (ah : Option Addr) (ai : Nat) (ab : (Bool × (List Int))) (au : Sl (Rep.int .u32) col w0 af ag aa.2) (av : Sl (Rep.int .u32) col w0 ah ai ab.2) (r : (Bool × (List Int))) (hm : m_r02_Mul N aa ab = some r) :
    Calls Tryz.prog 133 #[(.agg #[(.bool aa.1), (.slice af aa.2.length ag)]), (.agg #[(.bool ab.1), (.slice ah ab.2.length ai)])] w0 (fun e w' => ∃ (col' : Col) (ra1 : Option Addr) (rc2 : Nat), e = .returned ((.agg #[(.bool r.1), (.slice ra1 r.2.length rc2)])) ∧ Grow col w0 col' w' ∧ Own (Rep.int .u32) 114 c1 col' w' ra1 rc2 r.2) := by
 refine calls_ofR (m := 16) (args := [(.agg #[(.bool aa.1), (.slice af aa.2.length ag)]), (.agg #[(.bool ab.1), (.slice ah ab.2.length ai)])]) Tryz.func133 rfl rfl rfl ?_
 rw [m_r02_Mul.eq_1] at hm
 have hst := St.start col w0
 refine wS <| wR ?_
 refine l_box (col := (col0 col)) (v := (.agg #[(.bool aa.1), (.slice af aa.2.length ag)])) 1 rfl rfl ?_
 intro aw bd a4 ax al
 replace al : Box 38 1 a4 bd aw #[(.bool aa.1), (.slice af aa.2.length ag)] := al
 refine l_box (col := a4) (v := (.agg #[(.bool ab.1), (.slice ah ab.2.length ai)])) 2 rfl rfl ?_
 intro ay be a5 ar am
 replace am : Box 38 2 a5 be ay #[(.bool ab.1), (.slice ah ab.2.length ai)] := am
 refine l_alloc (col := a5) (v := (.agg #[(.bool false), (.slice none (([] : List Int).length) 0)])) 3 rfl Tryz.zeroValue38 ?_
 intro a6 a7 ae ao ac
 replace ac : Box 38 3 ae a7 a6 #[(.bool false), (.slice none (([] : List Int).length) 0)] := ac
 refine lN <| wS ?_
 refine wmix (col := ae) [(0, 1), (1, 0), (2, 1), (3, 0), (4, 1), (5, 1), (6, 0), (7, 1), (8, 0), (9, 3), (10, 3), (11, 2)] (by kernel_rfl) (by kernel_rfl) ?_
 refine xu (v := (.pointer ((some (⟨aw, 0, none⟩ : Addr)).map (·.add 0)))) rfl rfl (fun _ => rF (sz := 1) (off := 0) Tryz.underlying38 rfl Tryz.sizeOf4 (by decide) rfl rfl ⟨_, _, rfl⟩) ?_
 replace al := (al.gr ar).gr ao
 refine xv (v := (.bool aa.1)) rfl rfl (fun _ hC => r_ld Tryz.isAgg4 rfl (((al.atN).nth (q := 0) (v := (.bool aa.1)) rfl).gr (Grow.of_below (col := ae) hC.below))) ?_
 refine xu (v := (.pointer ((some (⟨ay, 0, none⟩ : Addr)).map (·.add 0)))) rfl rfl (fun _ => rF (sz := 1) (off := 0) Tryz.underlying38 rfl Tryz.sizeOf4 (by decide) rfl rfl ⟨_, _, rfl⟩) ?_
 replace am := am.gr ao
 refine xv (v := (.bool ab.1)) rfl rfl (fun _ hC => r_ld Tryz.isAgg4 rfl (((am.atN).nth (q := 0) (v := (.bool ab.1)) rfl).gr (Grow.of_below (col := ae) hC.below))) ?_
 refine xu (v := (.bool (!decide (aa.1 = ab.1)))) rfl rfl (fun _ => r_neqB aa.1 ab.1 Tryz.underlying4 rfl rfl) ?_
 refine xu (v := (.pointer ((some (⟨aw, 0, none⟩ : Addr)).map (·.add 1)))) rfl rfl (fun _ => rF (sz := 1) (off := 1) Tryz.underlying38 rfl Tryz.sizeOf36 (by decide) rfl rfl ⟨_, _, rfl⟩) ?_
 refine xv (v := (.slice af aa.2.length ag)) rfl rfl (fun _ hC => r_ld Tryz.isAgg36 rfl (((al.atN).nth (q := 1) (v := (.slice af aa.2.length ag)) rfl).gr (Grow.of_below (col := ae) hC.below))) ?_
 refine xu (v := (.pointer ((some (⟨ay, 0, none⟩ : Addr)).map (·.add 1)))) rfl rfl (fun _ => rF (sz := 1) (off := 1) Tryz.underlying38 rfl Tryz.sizeOf36 (by decide) rfl rfl ⟨_, _, rfl⟩) ?_
 refine xv (v := (.slice ah ab.2.length ai)) rfl rfl (fun _ hC => r_ld Tryz.isAgg36 rfl (((am.atN).nth (q := 1) (v := (.slice ah ab.2.length ai)) rfl).gr (Grow.of_below (col := ae) hC.below))) ?_
 refine xe rfl rfl ?_
 intro bf hC0
 have hC : Grow ae a7 ae bf := .of_below hC0.below
 obtain ⟨a8, bg, hm⟩ := bS hm
 replace au := ((((au.keep (Stay.start col w0)).gr ax).gr ar).gr ao).gr hC
 replace av := ((((av.keep (Stay.start col w0)).gr ax).gr ar).gr ao).gr hC
 refine lc rfl rfl (r_call2 Tryz.call158 rfl rfl) (c_r01_Mul N 4 ae _ af ag aa.2 ah ai ab.2 au av a8 bg) ?_
 rintro _ a9 ⟨aj, bh, bi, rfl, az, a0⟩
 refine ⟨_, rfl, ?_⟩
 refine lN ⟨fun w' => Grow aj a9 aj w', Grow.refl _ _, fun _ _ h => cls hC0 az h, ?_⟩
 refine xe rfl rfl ?_
 intro ba hC0
 replace hst := ((((hst.grow ax).grow ar).grow ao).grow hC).grow az
 replace ac := (ac.gr hC).gr az
 have hC : Grow aj a9 aj ba := .of_below hC0.below
 obtain ⟨ap, bj, hm⟩ := bS hm
 replace a0 := a0.gr hC
 refine lc rfl rfl (r_call2 Tryz.call157 rfl rfl) (c_r02_Make N 5 (frC 4 aj) _ (!decide (aa.1 = ab.1)) bh bi a8 (a0.toSlF (Froz.int .u32)) ap bj) ?_
 rintro _ bb ⟨bk, a1, a2, rfl, an, ak⟩
 refine ⟨_, rfl, ?_⟩
 replace ak := ak.thaw (flat_int .u32) an ((Fz.refl (col := aj)).froz 4) (by decide)
 replace an := an.thawR (col := aj)
 generalize colR ba.heap.size aj bk = ad at *
 refine lN ⟨fun w' => Grow ad bb ad w', Grow.refl _ _, fun _ _ h => cls hC0 an h, ?_⟩
 refine xe rfl rfl ?_
 intro bl hC0
 replace ac := (ac.gr hC).gr an
 replace hst := (hst.grow hC).grow an
 have hC : Grow ad bb ad bl := .of_below hC0.below
 replace ac := ac.gr hC
 refine l_bstore (v := (.agg #[(.bool ap.1), (.slice a1 ap.2.length a2)])) ac Tryz.sizeOf38 rfl rfl (by intro u hu; simp only [Value.cells, List.mem_cons, List.not_mem_nil, or_false] at hu; rcases hu with rfl | rfl <;> rfl) rfl rfl ?_
 intro a3 bc bm aq
 clear ac
 replace aq : Box 38 3 ad a3 a6 #[(.bool ap.1), (.slice a1 ap.2.length a2)] := aq
 refine lN ⟨fun w' => Grow ad a3 ad w', Grow.refl _ _, fun h => absurd h (by decide), ?_⟩
 refine xnil ?_
 replace ak := (ak.gr hC).kp bc
 replace hst := (hst.grow hC).kp bc bm
 intro bn hC
 replace hC : Grow ad a3 ad bn := .of_below hC.below
 refine wret ?_
 cases hm
 replace ak := ak.gr hC
 replace aq := aq.gr hC
 replace hst := hst.grow hC
 exact ⟨rfl, _, res_a rfl rfl Tryz.isAgg38 Tryz.sizeOf38 rfl rfl aq.atN, colF w0.heap.size col ad (fun n => bif Nat.beq n 5 then c1 else 0), a1, a2, rfl, hst.fin (fun n => bif Nat.beq n 5 then c1 else 0), hst.finOwn (g := (fun n => bif Nat.beq n 5 then c1 else 0)) rfl ak (by decide) (by decide) rfl⟩
def m_r02_Neg (N : Nat) (aa : (Bool × (List Int))) : Option (Bool × (List Int)) :=
  (m_r02_Make N (!aa.1) aa.2).bind fun ab => some (ab.1, ab.2)
theorem c_r02_Neg (N : Nat) (c1 : Nat) (col : Col) (w0 : World) (ab : Option Addr) (ac : Nat) (aa : (Bool × (List Int))) (ag : Sl (Rep.int .u32) col w0 ab ac aa.2) (r : (Bool × (List Int))) (hm : m_r02_Neg N aa = some r) :
    Calls Tryz.prog 179 #[(.agg #[(.bool aa.1), (.slice ab aa.2.length ac)])] w0 (fun e w' => ∃ (col' : Col) (ra1 : Option Addr) (rc2 : Nat), e = .returned ((.agg #[(.bool r.1), (.slice ra1 r.2.length rc2)])) ∧ Grow col w0 col' w' ∧ Own (Rep.int .u32) 114 c1 col' w' ra1 rc2 r.2) := by
 refine calls_ofR (m := 9) (args := [(.agg #[(.bool aa.1), (.slice ab aa.2.length ac)])]) Tryz.func179 rfl rfl rfl ?_
 rw [m_r02_Neg.eq_1] at hm
 have hst := St.start col w0
 refine wS <| wR ?_
 refine l_box (col := (col0 col)) (v := (.agg #[(.bool aa.1), (.slice ab aa.2.length ac)])) 1 rfl rfl ?_
 intro ah aw an ao ad
 replace ad : Box 38 1 an aw ah #[(.bool aa.1), (.slice ab aa.2.length ac)] := ad
 refine l_alloc (col := an) (v := (.agg #[(.bool false), (.slice none (([] : List Int).length) 0)])) 2 rfl Tryz.zeroValue38 ?_
 intro ap ax aq ai ae
 replace ae : Box 38 2 aq ax ap #[(.bool false), (.slice none (([] : List Int).length) 0)] := ae
 refine lN <| wS <| wR <| lV (.pointer ((some (⟨ah, 0, none⟩ : Addr)).map (·.add 0))) (rF (sz := 1) (off := 0) Tryz.underlying38 rfl Tryz.sizeOf4 (by decide) rfl rfl ⟨_, _, rfl⟩) ?_
 replace ad := ad.gr ai
 refine lV (.bool aa.1) (r_ld Tryz.isAgg4 rfl ((ad.atN).nth (q := 0) (v := (.bool aa.1)) rfl)) <| lV (.bool (!aa.1)) (r_not aa.1 rfl) <| lV (.pointer ((some (⟨ah, 0, none⟩ : Addr)).map (·.add 1))) (rF (sz := 1) (off := 1) Tryz.underlying38 rfl Tryz.sizeOf36 (by decide) rfl rfl ⟨_, _, rfl⟩) <| lV (.slice ab aa.2.length ac) (r_ld Tryz.isAgg36 rfl ((ad.atN).nth (q := 1) (v := (.slice ab aa.2.length ac)) rfl)) ?_
 obtain ⟨af, ay, hm⟩ := bS hm
 replace ag := ((ag.keep (Stay.start col w0)).gr ao).gr ai
 refine lc rfl rfl (r_call2 Tryz.call157 rfl rfl) (c_r02_Make N 3 aq _ (!aa.1) ab ac aa.2 ag af ay) ?_
 rintro _ a1 ⟨ar, aj, ak, rfl, au, al⟩
 refine ⟨_, rfl, ?_⟩
 replace ae := ae.gr au
 refine l_bstore (v := (.agg #[(.bool af.1), (.slice aj af.2.length ak)])) ae Tryz.sizeOf38 rfl rfl (by intro u hu; simp only [Value.cells, List.mem_cons, List.not_mem_nil, or_false] at hu; rcases hu with rfl | rfl <;> rfl) rfl rfl ?_
 intro az av a0 am
 clear ae
 replace am : Box 38 2 ar az ap #[(.bool af.1), (.slice aj af.2.length ak)] := am
 refine lN ?_
 refine wret ?_
 cases hm
 replace hst := (((hst.grow ao).grow ai).grow au).kp av a0
 replace al := al.kp av
 exact ⟨rfl, _, res_a rfl rfl Tryz.isAgg38 Tryz.sizeOf38 rfl rfl am.atN, colF w0.heap.size col ar (fun n => bif Nat.beq n 3 then c1 else 0), aj, ak, rfl, hst.fin (fun n => bif Nat.beq n 3 then c1 else 0), hst.finOwn (g := (fun n => bif Nat.beq n 3 then c1 else 0)) rfl al (by decide) (by decide) rfl⟩
def m_r01_limb (aa : (List Int)) (ab : Int) : Option Int :=
  if (decide (ab < (aa.length : Int))) = true then ((at? aa ab).bind fun ac => some (IntKind.u64.wrap ac)) else none
theorem c_r01_limb (col : Col) (w0 : World) (a0 : Option Addr) (cap0 : Nat) (aa : (List Int)) (ab : Int) (h0 : Sl (Rep.int .u32) col w0 a0 cap0 aa) (r : Int) (hm : m_r01_limb aa ab = some r) :
    Calls Tryz.prog 182 #[(.slice a0 aa.length cap0), (.int .i64 ab)] w0 (fun e w' => e = .returned ((.int .u64 r)) ∧ Below w0.heap.size w0 w') := by
 refine calls_of1 4 (m := 14) (args := [(.slice a0 aa.length cap0), (.int .i64 ab)]) Tryz.func182 rfl rfl rfl rfl rfl ?_
 rw [m_r01_limb.eq_1] at hm
 have hst := St.start col w0
 refine wS <| wR <| lA (.int .u64 0) <| lN <| wS <| wS <| wR <| lM (.int .i64 ab) <| lM (.slice a0 aa.length cap0) <| lV (.int .i64 (aa.length : Int)) (r_len Tryz.underlying36 rfl) <| lV (.bool (decide (ab < (aa.length : Int)))) (r_lss ab (aa.length : Int) rfl rfl) <| lN ?_
 replace h0 := h0.keep (Stay.start col w0)
 refine wcond (decide (ab < (aa.length : Int))) rfl (fun hb => ?_) (fun hb => ?_)
 ·rw [if_pos hb] at hm
  clear hb
  refine wS <| wR <| lM (.slice a0 aa.length cap0) <| lM (.int .i64 ab) ?_
  obtain ⟨ac, ad, hm⟩ := bS hm
  refine lV (sptr a0 (Int.toNat ab * 1)) (r_idx Tryz.underlying36 Tryz.sizeOf114 rfl rfl (at?_some ad).1 (at?_some ad).2.1 (h0.addr ad)) ?_
  refine lV (.int .u32 ac) (r_ld Tryz.isAgg114 rfl (h0.atInt ad)) <| lV (.int .u64 (IntKind.u64.wrap ac)) (r_conv ac ⟨_, Tryz.underlying114⟩ Tryz.underlying108 rfl) <| lA (.int .u64 (IntKind.u64.wrap ac)) <| lN ?_
  refine wret ?_
  cases hm
  exact ⟨rfl, rfl, hst.below⟩
 rw [if_neg (by rw [hb]; decide)] at hm
 clear hb
 cases hm
def m_r01_Cmp_L1 (N : Nat) (ab : (List Int)) (ac : (List Int)) : Nat → Int → Option Int
  | 0, _ => none
  | af + 1, aa => if (decide (0 ≤ aa)) = true then ((m_r01_limb ab aa).bind fun ad => (m_r01_limb ac aa).bind fun ae => if (decide (ad < ae)) = true then none else (if (decide (ae < ad)) = true then none else ((m_r01_Cmp_L1 N ab ac af) (IntKind.i64.wrap (aa - 1))))) else (some 0)
termination_by structural x => x
def m_r01_Cmp_J1 (N : Nat) (aa : (List Int)) (ab : (List Int)) (ac : Int) : Option Int :=
  m_r01_Cmp_L1 N aa ab N (IntKind.i64.wrap (ac - 1))
def m_r01_Cmp (N : Nat) (aa : (List Int)) (ab : (List Int)) : Option Int :=
  if (decide ((aa.length : Int) < (ab.length : Int))) = true then none else (m_r01_Cmp_J1 N aa ab (aa.length : Int))
theorem c_r01_Cmp (N : Nat) (col : Col) (w0 : World) (a0 : Option Addr) (cap0 : Nat) (aa : (List Int)) (a1 : Option Addr) (cap1 : Nat) (ab : (List Int)) (h0 : Sl (Rep.int .u32) col w0 a0 cap0 aa) (h1 : Sl (Rep.int .u32) col w0 a1 cap1 ab) (r : Int) (hm : m_r01_Cmp N aa ab = some r) :
    Calls Tryz.prog 192 #[(.slice a0 aa.length cap0), (.slice a1 ab.length cap1)] w0 (fun e w' => e = .returned ((.int .i64 r)) ∧ Below w0.heap.size w0 w') := by
 refine calls_of1 4 (m := 35) (args := [(.slice a0 aa.length cap0), (.slice a1 ab.length cap1)]) Tryz.func192 rfl rfl rfl rfl rfl ?_
 rw [m_r01_Cmp.eq_1] at hm
 have hst := St.start col w0
 refine wS <| wR <| lA (.int .i64 0) <| lN <| wS <| wR <| lM (.slice a0 aa.length cap0) <| lV (.int .i64 (aa.length : Int)) (r_len Tryz.underlying36 rfl) <| lA (.int .i64 (aa.length : Int)) <| lN <| wS ?_
 replace h0 := h0.keep (Stay.start col w0)
 replace h1 := h1.keep (Stay.start col w0)
 refine Wp.cut (fun f am => ∃ (ai : Col) (ag : Int), m_r01_Cmp_J1 N aa ab ag = some r ∧ St w0 (col0 col) ai am ∧ Sl (Rep.int .u32) ai am a0 cap0 aa ∧ Sl (Rep.int .u32) ai am a1 cap1 ab ∧ f 0 = (.slice a0 aa.length cap0) ∧ f 1 = (.slice a1 ab.length cap1) ∧ f 5 = (.int .i64 ag) ∧ f 1000000 = (enc [])) ?_ ?_
 ·intro f am hJ
  obtain ⟨ai, ag, hm, hst, h0, h1, hs0, hs1, hs5, hs1000000⟩ := hJ
  rw [m_r01_Cmp_J1.eq_1] at hm
  refine .lD 0 hs0 <| .lD 1 hs1 <| .lD 5 hs5 <| .lD 1000000 hs1000000 ?_
  clear hs0 hs1 hs5 hs1000000
  refine wS <| wS <| wR <| lM (.int .i64 ag) <| lV (.int .i64 (IntKind.i64.wrap (ag - 1))) (r_sub ag 1 rfl rfl) <| lA (.int .i64 (IntKind.i64.wrap (ag - 1))) <| lN <| wB ?_
  refine wloop (fun n f aj => ∃ (ad : Col) (ac : Int) (ah : Nat), ah = n ∧ m_r01_Cmp_L1 N aa ab ah ac = some r ∧ St w0 (col0 col) ad aj ∧ Sl (Rep.int .u32) ad aj a0 cap0 aa ∧ Sl (Rep.int .u32) ad aj a1 cap1 ab ∧ f 0 = (.slice a0 aa.length cap0) ∧ f 1 = (.slice a1 ab.length cap1) ∧ f 6 = (.int .i64 ac) ∧ f 1000000 = (enc [])) N ⟨ai, (IntKind.i64.wrap (ag - 1)), N, rfl, hm, hst, h0, h1, rfl, rfl, rfl, rfl⟩ ?_
  clear hm; intro n f aj hI
  obtain ⟨ad, ac, ah, hn, hm, hst, h0, h1, hs0, hs1, hs6, hs1000000⟩ := hI
  subst hn
  refine .lD 0 hs0 <| .lD 1 hs1 <| .lD 6 hs6 <| .lD 1000000 hs1000000 ?_
  clear hs0 hs1 hs6 hs1000000
  cases ah with
  | zero => rw [m_r01_Cmp_L1.eq_1] at hm; cases hm
  | succ ah =>
   rw [m_r01_Cmp_L1.eq_2] at hm
   refine wS <| wS <| wR <| lM (.int .i64 ac) <| lV (.bool (decide (0 ≤ ac))) (r_geq ac 0 rfl rfl) <| lN ?_
   refine wcond (decide (0 ≤ ac)) rfl (fun hb => ?_) (fun hb => ?_)
   ·rw [if_pos hb] at hm
    clear hb
    refine wK <| wS <| wB <| wS <| wR <| lM (.slice a0 aa.length cap0) <| lM (.int .i64 ac) ?_
    obtain ⟨ae, ao, hm⟩ := bS hm
    refine lc rfl rfl (r_call2 Tryz.call182 rfl rfl) (c_r01_limb ad _ a0 cap0 aa ac h0 ae ao) ?_
    rintro _ an ⟨rfl, ak⟩
    refine ⟨_, rfl, ?_⟩
    replace ak : Grow ad aj ad an := .of_below ak
    refine lA (.int .u64 ae) <| lN <| wS <| wR <| lM (.slice a1 ab.length cap1) <| lM (.int .i64 ac) ?_
    obtain ⟨af, ap, hm⟩ := bS hm
    replace h1 := h1.gr ak
    refine lc rfl rfl (r_call2 Tryz.call182 rfl rfl) (c_r01_limb ad _ a1 cap1 ab ac h1 af ap) ?_
    rintro _ aq ⟨rfl, al⟩
    refine ⟨_, rfl, ?_⟩
    replace al : Grow ad an ad aq := .of_below al
    refine lA (.int .u64 af) <| lN <| wS <| wS <| wR <| lM (.int .u64 ae) <| lM (.int .u64 af) <| lV (.bool (decide (ae < af))) (r_lss ae af rfl rfl) <| lN ?_
    replace h0 := (h0.gr ak).gr al
    replace hst := (hst.grow ak).grow al
    replace h1 := h1.gr al
    refine wcond (decide (ae < af)) rfl (fun hb => ?_) (fun hb => ?_)
    ·rw [if_pos hb] at hm
     clear hb
     cases hm
    rw [if_neg (by rw [hb]; decide)] at hm
    clear hb
    refine wK <| wS <| wR <| lM (.int .u64 ae) <| lM (.int .u64 af) <| lV (.bool (decide (af < ae))) (r_gtr ae af rfl rfl) <| lN ?_
    refine wcond (decide (af < ae)) rfl (fun hb => ?_) (fun hb => ?_)
    ·rw [if_pos hb] at hm
     clear hb
     cases hm
    rw [if_neg (by rw [hb]; decide)] at hm
    clear hb
    refine wK <| wR <| lM (.int .i64 ac) <| lV (.int .i64 (IntKind.i64.wrap (ac - 1))) (r_sub ac 1 rfl rfl) <| lA (.int .i64 (IntKind.i64.wrap (ac - 1))) <| lN ?_
    exact ⟨ah, by omega, ⟨ad, (IntKind.i64.wrap (ac - 1)), ah, rfl, hm, hst, h0, h1, rfl, rfl, rfl, rfl⟩⟩
   rw [if_neg (by rw [hb]; decide)] at hm
   clear hb
   refine wexit (inB_hit ?_)
   refine wS <| wR <| lA (.int .i64 0) <| lN ?_
   refine wret ?_
   cases hm
   exact ⟨rfl, rfl, hst.below⟩
 refine wS <| wR <| lM (.slice a1 ab.length cap1) <| lV (.int .i64 (ab.length : Int)) (r_len Tryz.underlying36 rfl) <| lM (.int .i64 (aa.length : Int)) <| lV (.bool (decide ((aa.length : Int) < (ab.length : Int)))) (r_gtr (ab.length : Int) (aa.length : Int) rfl rfl) <| lN ?_
 refine wcond (decide ((aa.length : Int) < (ab.length : Int))) rfl (fun hb => ?_) (fun hb => ?_)
 ·rw [if_pos hb] at hm
  clear hb
  cases hm
 rw [if_neg (by rw [hb]; decide)] at hm
 clear hb
 refine wK ?_
 exact ⟨(col0 col), (aa.length : Int), hm, hst, h0, h1, rfl, rfl, rfl, rfl⟩
theorem el114_189 : ElemOk Tryz.prog 114 1 4 := ⟨Tryz.t114, _, rfl, rfl, rfl, rfl, rfl⟩
def m_r01_Sub_J1 (aa : Int) (kk_L1 : ((List Int) → Int → Int → Option ((List Int) × Bool))) (ab : List Int) (ac : Int) : Option ((List Int) × Bool) :=
  kk_L1 ab ac (IntKind.i64.wrap (aa + 1))
def m_r01_Sub_J2 (aa : List Int) (ab : Int) (ae : Int) (kk_L1 : ((List Int) → Int → Int → Option ((List Int) × Bool))) (ac : Int) (af : Int) (ad : Int) : Option ((List Int) × Bool) :=
  chk ((aa.length + [IntKind.u32.wrap (IntKind.u64.wrap (ad - (IntKind.u64.wrap (ac + ab))))].length) * 4 ≤ 140737488355328 ∧ aa.length + [IntKind.u32.wrap (IntKind.u64.wrap (ad - (IntKind.u64.wrap (ac + ab))))].length ≤ maxLen) (m_r01_Sub_J1 ae kk_L1 (aa ++ [IntKind.u32.wrap (IntKind.u64.wrap (ad - (IntKind.u64.wrap (ac + ab))))]) af)
def m_r01_Sub_L1 (N : Nat) (ab : (List Int)) (ac : (List Int)) : Nat → (List Int) → Int → Int → Option ((List Int) × Bool)
  | 0, _, _, _ => none
  | ah + 1, ad, ae, aa => if (decide (aa < (ab.length : Int))) = true then ((m_r01_limb ab aa).bind fun af => (m_r01_limb ac aa).bind fun ag => if (decide (af < (IntKind.u64.wrap (ag + ae)))) = true then none else (m_r01_Sub_J2 ad ae aa (m_r01_Sub_L1 N ab ac ah) ag 0 af)) else ((m_r01_Norm N ad).bind fun ai => some (ai, true))
termination_by structural x => x
def m_r01_Sub (N : Nat) (aa : (List Int)) (ab : (List Int)) : Option ((List Int) × Bool) :=
  (m_r01_Cmp N aa ab).bind fun ac => if (decide (ac < 0)) = true then none else (m_r01_Sub_L1 N aa ab N ([] : List Int) 0 0)
theorem c_r01_Sub (N : Nat) (c1 : Nat) (col : Col) (w0 : World) (a0 : Option Addr) (cap0 : Nat) (ac : (List Int)) (a1 : Option Addr) (cap1 : Nat) (ae : (List Int)) (h0 : Sl (Rep.int .u32) col w0 a0 cap0 ac) (h1 : Sl (Rep.int .u32) col w0 a1 cap1 ae) (r : ((List Int) × Bool)) (hm : m_r01_Sub N ac ae = some r) :
    Calls Tryz.prog 189 #[(.slice a0 ac.length cap0), (.slice a1 ae.length cap1)] w0 (fun e w' => ∃ (col' : Col) (ra1 : Option Addr) (rc2 : Nat), e = .returned (.tuple #[(.slice ra1 r.1.length rc2), (.bool r.2)]) ∧ Grow col w0 col' w' ∧ Own (Rep.int .u32) 114 c1 col' w' ra1 rc2 r.1) := by
 refine calls_of2 4 5 (m := 43) (args := [(.slice a0 ac.length cap0), (.slice a1 ae.length cap1)]) Tryz.func189 rfl rfl rfl rfl rfl ?_
 rw [m_r01_Sub.eq_1] at hm
 have hst := St.start col w0
 refine wS <| wR <| lA (.slice none (([] : List Int).length) 0) <| lA (.bool false) <| lN <| wS <| wS <| wR <| lM (.slice a0 ac.length cap0) <| lM (.slice a1 ae.length cap1) ?_
 obtain ⟨ay, bg, hm⟩ := bS hm
 replace h0 := h0.keep (Stay.start col w0)
 replace h1 := h1.keep (Stay.start col w0)
 refine lc rfl rfl (r_call2 Tryz.call192 rfl rfl) (c_r01_Cmp N (col0 col) _ a0 cap0 ac a1 cap1 ae h0 h1 ay bg) ?_
 rintro _ bh ⟨rfl, au⟩
 refine ⟨_, rfl, ?_⟩
 replace au : Grow (col0 col) w0 (col0 col) bh := .of_below au
 refine lV (.bool (decide (ay < 0))) (r_lss ay 0 rfl rfl) <| lN ?_
 replace h0 := h0.gr au
 replace h1 := h1.gr au
 replace hst := hst.grow au
 refine wcond (decide (ay < 0)) rfl (fun hb => ?_) (fun hb => ?_)
 ·rw [if_pos hb] at hm
  clear hb
  cases hm
 rw [if_neg (by rw [hb]; decide)] at hm
 clear hb
 refine wK <| wS <| wR <| lA (.slice none (([] : List Int).length) 0) <| lN <| wS <| wR <| lA (.int .u64 0) <| lN <| wS <| wS <| wR <| lA (.int .i64 0) <| lN <| wB ?_
 refine wloop (fun n f am => ∃ (af : Col) (ak : Option Addr) (al : Nat) (ah : List Int) (aa : Int) (ad : Int) (ai : Nat), ai = n ∧ m_r01_Sub_L1 N ac ae ai ah aa ad = some r ∧ St w0 (col0 col) af am ∧ Sl (Rep.int .u32) af am a0 cap0 ac ∧ Sl (Rep.int .u32) af am a1 cap1 ae ∧ Own (Rep.int .u32) 114 1 af am ak al ah ∧ f 0 = (.slice a0 ac.length cap0) ∧ f 1 = (.slice a1 ae.length cap1) ∧ f 6 = (.slice ak ah.length al) ∧ f 7 = (.int .u64 aa) ∧ f 8 = (.int .i64 ad) ∧ f 1000000 = (enc [])) N ⟨(col0 col), none, 0, ([] : List Int), 0, 0, N, rfl, hm, hst, h0, h1, Own.nil, rfl, rfl, rfl, rfl, rfl, rfl⟩ ?_
 clear hm; intro n f am hI
 obtain ⟨af, ak, al, ah, aa, ad, ai, hn, hm, hst, h0, h1, aj, hs0, hs1, hs6, hs7, hs8, hs1000000⟩ := hI
 subst hn
 refine .lD 0 hs0 <| .lD 1 hs1 <| .lD 6 hs6 <| .lD 7 hs7 <| .lD 8 hs8 <| .lD 1000000 hs1000000 ?_
 clear hs0 hs1 hs6 hs7 hs8 hs1000000
 cases ai with
 | zero => rw [m_r01_Sub_L1.eq_1] at hm; cases hm
 | succ ai =>
  rw [m_r01_Sub_L1.eq_2] at hm
  refine wS <| wS <| wR <| lM (.int .i64 ad) <| lM (.slice a0 ac.length cap0) <| lV (.int .i64 (ac.length : Int)) (r_len Tryz.underlying36 rfl) <| lV (.bool (decide (ad < (ac.length : Int)))) (r_lss ad (ac.length : Int) rfl rfl) <| lN ?_
  refine wcond (decide (ad < (ac.length : Int))) rfl (fun hb => ?_) (fun hb => ?_)
  ·rw [if_pos hb] at hm
   clear hb
   refine wK <| wS ?_
   refine Wp.cut (fun f av => ∃ (ao : Col) (az : Option Addr) (a2 : Nat) (aw : List Int) (a3 : Int), m_r01_Sub_J1 ad (m_r01_Sub_L1 N ac ae ai) aw a3 = some r ∧ St w0 (col0 col) ao av ∧ Sl (Rep.int .u32) ao av a0 cap0 ac ∧ Sl (Rep.int .u32) ao av a1 cap1 ae ∧ Own (Rep.int .u32) 114 1 ao av az a2 aw ∧ f 0 = (.slice a0 ac.length cap0) ∧ f 1 = (.slice a1 ae.length cap1) ∧ f 6 = (.slice az aw.length a2) ∧ f 7 = (.int .u64 a3) ∧ f 8 = (.int .i64 ad) ∧ f 1000000 = (enc [])) ?_ ?_
   ·intro f av hJ
    obtain ⟨ao, az, a2, aw, a3, hm, hst, h0, h1, bi, hs0, hs1, hs6, hs7, hs8, hs1000000⟩ := hJ
    rw [m_r01_Sub_J1.eq_1] at hm
    refine .lD 0 hs0 <| .lD 1 hs1 <| .lD 6 hs6 <| .lD 7 hs7 <| .lD 8 hs8 <| .lD 1000000 hs1000000 ?_
    clear hs0 hs1 hs6 hs7 hs8 hs1000000
    refine wR <| lM (.int .i64 ad) <| lV (.int .i64 (IntKind.i64.wrap (ad + 1))) (r_add ad 1 rfl rfl) <| lA (.int .i64 (IntKind.i64.wrap (ad + 1))) <| lN ?_
    exact ⟨ai, by omega, ⟨ao, az, a2, aw, a3, (IntKind.i64.wrap (ad + 1)), ai, rfl, hm, hst, h0, h1, bi, rfl, rfl, rfl, rfl, rfl, rfl⟩⟩
   refine wB <| wS <| wR <| lM (.slice a0 ac.length cap0) <| lM (.int .i64 ad) ?_
   obtain ⟨an, bj, hm⟩ := bS hm
   refine lc rfl rfl (r_call2 Tryz.call182 rfl rfl) (c_r01_limb af _ a0 cap0 ac ad h0 an bj) ?_
   rintro _ a9 ⟨rfl, ap⟩
   refine ⟨_, rfl, ?_⟩
   replace ap : Grow af am af a9 := .of_below ap
   refine lA (.int .u64 an) <| lN <| wS <| wR <| lM (.slice a1 ae.length cap1) <| lM (.int .i64 ad) ?_
   obtain ⟨ab, bk, hm⟩ := bS hm
   replace h1 := h1.gr ap
   refine lc rfl rfl (r_call2 Tryz.call182 rfl rfl) (c_r01_limb af _ a1 cap1 ae ad h1 ab bk) ?_
   rintro _ bl ⟨rfl, aq⟩
   refine ⟨_, rfl, ?_⟩
   replace aq : Grow af a9 af bl := .of_below aq
   refine lM (.int .u64 aa) <| lV (.int .u64 (IntKind.u64.wrap (ab + aa))) (r_add ab aa rfl rfl) <| lA (.int .u64 (IntKind.u64.wrap (ab + aa))) <| lN <| wS <| wR <| lA (.int .u64 0) <| lN <| wS ?_
   replace h0 := (h0.gr ap).gr aq
   replace aj := (aj.gr ap).gr aq
   replace hst := (hst.grow ap).grow aq
   replace h1 := h1.gr aq
   refine Wp.cut (fun f ax => ∃ (ar : Col) (a4 : Int) (ag : Int), m_r01_Sub_J2 ah aa ad (m_r01_Sub_L1 N ac ae ai) ab a4 ag = some r ∧ St w0 (col0 col) ar ax ∧ Sl (Rep.int .u32) ar ax a0 cap0 ac ∧ Sl (Rep.int .u32) ar ax a1 cap1 ae ∧ Own (Rep.int .u32) 114 1 ar ax ak al ah ∧ f 0 = (.slice a0 ac.length cap0) ∧ f 1 = (.slice a1 ae.length cap1) ∧ f 10 = (.int .u64 (IntKind.u64.wrap (ab + aa))) ∧ f 6 = (.slice ak ah.length al) ∧ f 7 = (.int .u64 a4) ∧ f 8 = (.int .i64 ad) ∧ f 9 = (.int .u64 ag) ∧ f 1000000 = (enc [])) ?_ ?_
   ·intro f ax hJ
    obtain ⟨ar, a4, ag, hm, hst, h0, h1, aj, hs0, hs1, hs10, hs6, hs7, hs8, hs9, hs1000000⟩ := hJ
    rw [m_r01_Sub_J2.eq_1] at hm
    refine .lD 0 hs0 <| .lD 1 hs1 <| .lD 10 hs10 <| .lD 6 hs6 <| .lD 7 hs7 <| .lD 8 hs8 <| .lD 9 hs9 <| .lD 1000000 hs1000000 ?_
    clear hs0 hs1 hs10 hs6 hs7 hs8 hs9 hs1000000
    refine wR <| lM (.slice ak ah.length al) <| lM (.int .u64 ag) <| lM (.int .u64 (IntKind.u64.wrap (ab + aa))) <| lV (.int .u64 (IntKind.u64.wrap (ag - (IntKind.u64.wrap (ab + aa))))) (r_sub ag (IntKind.u64.wrap (ab + aa)) rfl rfl) <| lV (.int .u32 (IntKind.u32.wrap (IntKind.u64.wrap (ag - (IntKind.u64.wrap (ab + aa)))))) (r_conv (IntKind.u64.wrap (ag - (IntKind.u64.wrap (ab + aa)))) ⟨_, Tryz.underlying108⟩ Tryz.underlying114 rfl) ?_
    refine l_lit (col := ar) (r := (Rep.int .u32)) (xs := [IntKind.u32.wrap (IntKind.u64.wrap (ag - (IntKind.u64.wrap (ab + aa))))]) [(.int .u32 (IntKind.u32.wrap (IntKind.u64.wrap (ag - (IntKind.u64.wrap (ab + aa))))))] 2 rfl Tryz.underlying36 el114_189 rfl rfl rfl rfl rfl rfl (by intro v hv; simp only [List.mem_cons, List.not_mem_nil, or_false] at hv; subst hv; rfl) (RowsH.ofF (Rows.consF (r := (Rep.int .u32)) (x := IntKind.u32.wrap (IntKind.u64.wrap (ag - (IntKind.u64.wrap (ab + aa))))) (cs := [(.int .u32 (IntKind.u32.wrap (IntKind.u64.wrap (ag - (IntKind.u64.wrap (ab + aa))))))]) (rd_int .u32 (IntKind.u32.wrap (IntKind.u64.wrap (ag - (IntKind.u64.wrap (ab + aa)))))) Rows.nil0)) ?_
    intro bu bm bn a5 bo
    obtain ⟨ba, hm⟩ := cS hm
    replace aj := aj.gr a5
    refine l_appendM (col := bn) (w := bm) (r := (Rep.int .u32)) (c := 1) (c2 := 1) (xs := ah) (ys := [IntKind.u32.wrap (IntKind.u64.wrap (ag - (IntKind.u64.wrap (ab + aa))))]) aj (bo.srcN (NB.int (k := .u32))) rfl Tryz.underlying36 el114_189 rfl rfl rfl ba.1 ba.2 (by decide) ?_
    intro bb bc bv bp a7 bq
    clear aj
    refine lA (.slice bb ((ah ++ [IntKind.u32.wrap (IntKind.u64.wrap (ag - (IntKind.u64.wrap (ab + aa))))]).length) bc) <| lN ?_
    replace h0 := (h0.gr a5).kpp a7
    replace h1 := (h1.gr a5).kpp a7
    replace hst := (hst.grow a5).kpp a7
    exact ⟨bp, bb, bc, (ah ++ [IntKind.u32.wrap (IntKind.u64.wrap (ag - (IntKind.u64.wrap (ab + aa))))]), a4, hm, hst, h0, h1, bq, rfl, rfl, rfl, rfl, rfl, rfl⟩
   refine wS <| wR <| lM (.int .u64 an) <| lM (.int .u64 (IntKind.u64.wrap (ab + aa))) <| lV (.bool (decide (an < (IntKind.u64.wrap (ab + aa))))) (r_lss an (IntKind.u64.wrap (ab + aa)) rfl rfl) <| lN ?_
   refine wcond (decide (an < (IntKind.u64.wrap (ab + aa)))) rfl (fun hb => ?_) (fun hb => ?_)
   ·rw [if_pos hb] at hm
    clear hb
    cases hm
   rw [if_neg (by rw [hb]; decide)] at hm
   clear hb
   refine wK ?_
   exact ⟨af, 0, an, hm, hst, h0, h1, aj, rfl, rfl, rfl, rfl, rfl, rfl, rfl, rfl⟩
  rw [if_neg (by rw [hb]; decide)] at hm
  clear hb
  refine wexit (inB_hit ?_)
  refine wS <| wR <| lM (.slice ak ah.length al) ?_
  obtain ⟨bd, br, hm⟩ := bS hm
  refine lc rfl rfl (r_call1 Tryz.call159 rfl) (c_r01_Norm N 3 (frC 1 af) _ ak al ah (aj.toSlF (Froz.int .u32)) bd br) ?_
  rintro _ bw ⟨bs, be, bf, rfl, a6, a8⟩
  refine ⟨_, rfl, ?_⟩
  replace a8 := a8.thaw (flat_int .u32) a6 ((Fz.refl (col := af)).froz 1) (by decide)
  replace a6 := a6.thawR (col := af)
  generalize colR am.heap.size af bs = bt at *
  refine lA (.slice be bd.length bf) <| lA (.bool true) <| lN ?_
  refine wret ?_
  cases hm
  replace hst := hst.grow a6
  exact ⟨rfl, colF w0.heap.size col bt (fun n => bif Nat.beq n 3 then c1 else 0), be, bf, rfl, hst.fin (fun n => bif Nat.beq n 3 then c1 else 0), hst.finOwn (g := (fun n => bif Nat.beq n 3 then c1 else 0)) rfl a8 (by decide) (by decide) rfl⟩
def m_r02_Add (N : Nat) (aa : (Bool × (List Int))) (ab : (Bool × (List Int))) : Option (Bool × (List Int)) :=
  if (decide (aa.1 = ab.1)) = true then none else ((m_r01_Sub N aa.2 ab.2).bind fun ac => if ac.2 = true then ((m_r02_Make N aa.1 ac.1).bind fun ad => some (ad.1, ad.2)) else none)
theorem c_r02_Add (N : Nat) (c1 : Nat) (col : Col) (w0 : World) (ae : Option Addr) (af : Nat) (aa : (Bool × (List Int))) (ag : Option Addr) (ah : Nat) (ab : (Bool × (List Int))) (av : Sl (Rep.int .u32) col w0 ae af aa.2) (aw : Sl (Rep.int .u32) col w0 ag ah ab.2) (r : (Bool × (List Int))) (hm : m_r02_Add N aa ab = some r) :
    Calls Tryz.prog 178 #[(.agg #[(.bool aa.1), (.slice ae aa.2.length af)]), (.agg #[(.bool ab.1), (.slice ag ab.2.length ah)])] w0 (fun e w' => ∃ (col' : Col) (ra1 : Option Addr) (rc2 : Nat), e = .returned ((.agg #[(.bool r.1), (.slice ra1 r.2.length rc2)])) ∧ Grow col w0 col' w' ∧ Own (Rep.int .u32) 114 c1 col' w' ra1 rc2 r.2) := by
 refine calls_ofR (m := 45) (args := [(.agg #[(.bool aa.1), (.slice ae aa.2.length af)]), (.agg #[(.bool ab.1), (.slice ag ab.2.length ah)])]) Tryz.func178 rfl rfl rfl ?_
 rw [m_r02_Add.eq_1] at hm
 have hst := St.start col w0
 refine wS <| wR ?_
 refine l_box (col := (col0 col)) (v := (.agg #[(.bool aa.1), (.slice ae aa.2.length af)])) 1 rfl rfl ?_
 intro aq a9 a3 ax ad
 replace ad : Box 38 1 a3 a9 aq #[(.bool aa.1), (.slice ae aa.2.length af)] := ad
 refine l_box (col := a3) (v := (.agg #[(.bool ab.1), (.slice ag ab.2.length ah)])) 2 rfl rfl ?_
 intro ay ba a4 ar aj
 replace aj : Box 38 2 a4 ba ay #[(.bool ab.1), (.slice ag ab.2.length ah)] := aj
 refine l_alloc (col := a4) (v := (.agg #[(.bool false), (.slice none (([] : List Int).length) 0)])) 3 rfl Tryz.zeroValue38 ?_
 intro a5 bb a6 ak ai
 replace ai : Box 38 3 a6 bb a5 #[(.bool false), (.slice none (([] : List Int).length) 0)] := ai
 refine lN <| wS <| wS <| wR <| lV (.pointer ((some (⟨aq, 0, none⟩ : Addr)).map (·.add 0))) (rF (sz := 1) (off := 0) Tryz.underlying38 rfl Tryz.sizeOf4 (by decide) rfl rfl ⟨_, _, rfl⟩) ?_
 replace ad := (ad.gr ar).gr ak
 refine lV (.bool aa.1) (r_ld Tryz.isAgg4 rfl ((ad.atN).nth (q := 0) (v := (.bool aa.1)) rfl)) <| lV (.pointer ((some (⟨ay, 0, none⟩ : Addr)).map (·.add 0))) (rF (sz := 1) (off := 0) Tryz.underlying38 rfl Tryz.sizeOf4 (by decide) rfl rfl ⟨_, _, rfl⟩) ?_
 replace aj := aj.gr ak
 refine lV (.bool ab.1) (r_ld Tryz.isAgg4 rfl ((aj.atN).nth (q := 0) (v := (.bool ab.1)) rfl)) <| lV (.bool (decide (aa.1 = ab.1))) (r_eqlB aa.1 ab.1 Tryz.underlying4 rfl rfl) <| lN ?_
 replace av := (((av.keep (Stay.start col w0)).gr ax).gr ar).gr ak
 replace aw := (((aw.keep (Stay.start col w0)).gr ax).gr ar).gr ak
 replace hst := ((hst.grow ax).grow ar).grow ak
 refine wcond (decide (aa.1 = ab.1)) rfl (fun hb => ?_) (fun hb => ?_)
 ·rw [if_pos hb] at hm
  clear hb
  cases hm
 rw [if_neg (by rw [hb]; decide)] at hm
 clear hb
 refine wK <| wS <| wR <| lV (.pointer ((some (⟨aq, 0, none⟩ : Addr)).map (·.add 1))) (rF (sz := 1) (off := 1) Tryz.underlying38 rfl Tryz.sizeOf36 (by decide) rfl rfl ⟨_, _, rfl⟩) <| lV (.slice ae aa.2.length af) (r_ld Tryz.isAgg36 rfl ((ad.atN).nth (q := 1) (v := (.slice ae aa.2.length af)) rfl)) <| lV (.pointer ((some (⟨ay, 0, none⟩ : Addr)).map (·.add 1))) (rF (sz := 1) (off := 1) Tryz.underlying38 rfl Tryz.sizeOf36 (by decide) rfl rfl ⟨_, _, rfl⟩) <| lV (.slice ag ab.2.length ah) (r_ld Tryz.isAgg36 rfl ((aj.atN).nth (q := 1) (v := (.slice ag ab.2.length ah)) rfl)) ?_
 obtain ⟨ac, bc, hm⟩ := bS hm
 refine lc rfl rfl (r_call2 Tryz.call189 rfl rfl) (c_r01_Sub N 4 a6 _ ae af aa.2 ag ah ab.2 av aw ac bc) ?_
 rintro _ bd ⟨au, al, am, rfl, az, be⟩
 refine ⟨_, rfl, ?_⟩
 refine lM (.tuple #[(.slice al ac.1.length am), (.bool ac.2)]) <| lV (.slice al ac.1.length am) (r_extract rfl rfl) <| lV (.bool ac.2) (r_extract rfl rfl) <| lA (.slice al ac.1.length am) <| lA (.bool ac.2) <| lN <| wS <| wS <| wR <| lM (.bool ac.2) <| lN ?_
 replace ad := ad.gr az
 replace ai := ai.gr az
 replace hst := hst.grow az
 refine wcond (ac.2) rfl (fun hb => ?_) (fun hb => ?_)
 ·rw [if_pos hb] at hm
  clear hb
  refine wS <| wR <| lV (.pointer ((some (⟨aq, 0, none⟩ : Addr)).map (·.add 0))) (rF (sz := 1) (off := 0) Tryz.underlying38 rfl Tryz.sizeOf4 (by decide) rfl rfl ⟨_, _, rfl⟩) <| lV (.bool aa.1) (r_ld Tryz.isAgg4 rfl ((ad.atN).nth (q := 0) (v := (.bool aa.1)) rfl)) <| lM (.slice al ac.1.length am) ?_
  obtain ⟨an, bf, hm⟩ := bS hm
  refine lc rfl rfl (r_call2 Tryz.call157 rfl rfl) (c_r02_Make N 5 (frC 4 au) _ aa.1 al am ac.1 (be.toSlF (Froz.int .u32)) an bf) ?_
  rintro _ bj ⟨bg, a0, a1, rfl, ao, ap⟩
  refine ⟨_, rfl, ?_⟩
  replace ap := ap.thaw (flat_int .u32) ao ((Fz.refl (col := au)).froz 4) (by decide)
  replace ao := ao.thawR (col := au)
  generalize colR bd.heap.size au bg = a7 at *
  replace ai := ai.gr ao
  refine l_bstore (v := (.agg #[(.bool an.1), (.slice a0 an.2.length a1)])) ai Tryz.sizeOf38 rfl rfl (by intro u hu; simp only [Value.cells, List.mem_cons, List.not_mem_nil, or_false] at hu; rcases hu with rfl | rfl <;> rfl) rfl rfl ?_
  intro bh a8 bi a2
  clear ai
  replace a2 : Box 38 3 a7 bh a5 #[(.bool an.1), (.slice a0 an.2.length a1)] := a2
  refine lN ?_
  refine wret ?_
  cases hm
  replace hst := (hst.grow ao).kp a8 bi
  replace ap := ap.kp a8
  exact ⟨rfl, _, res_a rfl rfl Tryz.isAgg38 Tryz.sizeOf38 rfl rfl a2.atN, colF w0.heap.size col a7 (fun n => bif Nat.beq n 5 then c1 else 0), a0, a1, rfl, hst.fin (fun n => bif Nat.beq n 5 then c1 else 0), hst.finOwn (g := (fun n => bif Nat.beq n 5 then c1 else 0)) rfl ap (by decide) (by decide) rfl⟩
 rw [if_neg (by rw [hb]; decide)] at hm
 clear hb
 cases hm
def m_r02_Sub (N : Nat) (aa : (Bool × (List Int))) (ab : (Bool × (List Int))) : Option (Bool × (List Int)) :=
  (m_r02_Neg N (ab.1, ab.2)).bind fun ac => (m_r02_Add N (aa.1, aa.2) (ac.1, ac.2)).bind fun ad => some (ad.1, ad.2)
theorem c_r02_Sub (N : Nat) (c1 : Nat) (col : Col) (w0 : World) (af : Option Addr) (ag : Nat) (aa : (Bool × (List Int))) (ah : Option Addr) (ai : Nat) (ab : (Bool × (List Int))) (am : Sl (Rep.int .u32) col w0 af ag aa.2) (aw : Sl (Rep.int .u32) col w0 ah ai ab.2) (r : (Bool × (List Int))) (hm : m_r02_Sub N aa ab = some r) :
    Calls Tryz.prog 156 #[(.agg #[(.bool aa.1), (.slice af aa.2.length ag)]), (.agg #[(.bool ab.1), (.slice ah ab.2.length ai)])] w0 (fun e w' => ∃ (col' : Col) (ra1 : Option Addr) (rc2 : Nat), e = .returned ((.agg #[(.bool r.1), (.slice ra1 r.2.length rc2)])) ∧ Grow col w0 col' w' ∧ Own (Rep.int .u32) 114 c1 col' w' ra1 rc2 r.2) := by
 refine calls_ofR (m := 9) (args := [(.agg #[(.bool aa.1), (.slice af aa.2.length ag)]), (.agg #[(.bool ab.1), (.slice ah ab.2.length ai)])]) Tryz.func156 rfl rfl rfl ?_
 rw [m_r02_Sub.eq_1] at hm
 have hst := St.start col w0
 refine wS <| wR ?_
 refine l_box (col := (col0 col)) (v := (.agg #[(.bool aa.1), (.slice af aa.2.length ag)])) 1 rfl rfl ?_
 intro bb bc a3 ax an
 replace an : Box 38 1 a3 bc bb #[(.bool aa.1), (.slice af aa.2.length ag)] := an
 refine l_box (col := a3) (v := (.agg #[(.bool ab.1), (.slice ah ab.2.length ai)])) 2 rfl rfl ?_
 intro bd be a4 au ao
 replace ao : Box 38 2 a4 be bd #[(.bool ab.1), (.slice ah ab.2.length ai)] := ao
 refine l_alloc (col := a4) (v := (.agg #[(.bool false), (.slice none (([] : List Int).length) 0)])) 3 rfl Tryz.zeroValue38 ?_
 intro a5 a6 aj ap ac
 replace ac : Box 38 3 aj a6 a5 #[(.bool false), (.slice none (([] : List Int).length) 0)] := ac
 refine lN <| wS ?_
 refine wmix (col := aj) [(0, 0), (1, 0), (2, 3), (3, 3), (4, 2)] (by kernel_rfl) (by kernel_rfl) ?_
 replace an := (an.gr au).gr ap
 refine xv (v := (.agg #[(.bool aa.1), (.slice af aa.2.length ag)])) rfl rfl (fun _ hC => r_ldN Tryz.isAgg38 Tryz.sizeOf38 rfl rfl (an.atN.gr (Grow.of_below (col := aj) hC.below))) ?_
 replace ao := ao.gr ap
 refine xv (v := (.agg #[(.bool ab.1), (.slice ah ab.2.length ai)])) rfl rfl (fun _ hC => r_ldN Tryz.isAgg38 Tryz.sizeOf38 rfl rfl (ao.atN.gr (Grow.of_below (col := aj) hC.below))) ?_
 refine xe rfl rfl ?_
 intro bf hC0
 have hC : Grow aj a6 aj bf := .of_below hC0.below
 obtain ⟨ay, bg, hm⟩ := bS hm
 replace aw := ((((aw.keep (Stay.start col w0)).gr ax).gr au).gr ap).gr hC
 refine lc rfl rfl (r_call1 Tryz.call179 rfl) (c_r02_Neg N 4 aj _ ah ai (ab.1, ab.2) aw ay bg) ?_
 rintro _ a7 ⟨ae, bh, bi, rfl, av, az⟩
 refine ⟨_, rfl, ?_⟩
 refine lN ⟨fun w' => Grow ae a7 ae w', Grow.refl _ _, fun _ _ h => cls hC0 av h, ?_⟩
 refine xe rfl rfl ?_
 intro a8 hC0
 replace am := (((((am.keep (Stay.start col w0)).gr ax).gr au).gr ap).gr hC).gr av
 replace hst := ((((hst.grow ax).grow au).grow ap).grow hC).grow av
 replace ac := (ac.gr hC).gr av
 have hC : Grow ae a7 ae a8 := .of_below hC0.below
 obtain ⟨aq, bj, hm⟩ := bS hm
 replace am := am.gr hC
 replace az := az.gr hC
 refine lc rfl rfl (r_call2 Tryz.call178 rfl rfl) (c_r02_Add N 5 (frC 4 ae) _ af ag (aa.1, aa.2) bh bi (ay.1, ay.2) (am.froz 4) (az.toSlF (Froz.int .u32)) aq bj) ?_
 rintro _ a9 ⟨bk, a0, a1, rfl, al, ak⟩
 refine ⟨_, rfl, ?_⟩
 replace ak := ak.thaw (flat_int .u32) al ((Fz.refl (col := ae)).froz 4) (by decide)
 replace al := al.thawR (col := ae)
 generalize colR a8.heap.size ae bk = ad at *
 refine lN ⟨fun w' => Grow ad a9 ad w', Grow.refl _ _, fun _ _ h => cls hC0 al h, ?_⟩
 refine xe rfl rfl ?_
 intro bl hC0
 replace ac := (ac.gr hC).gr al
 replace hst := (hst.grow hC).grow al
 have hC : Grow ad a9 ad bl := .of_below hC0.below
 replace ac := ac.gr hC
 refine l_bstore (v := (.agg #[(.bool aq.1), (.slice a0 aq.2.length a1)])) ac Tryz.sizeOf38 rfl rfl (by intro u hu; simp only [Value.cells, List.mem_cons, List.not_mem_nil, or_false] at hu; rcases hu with rfl | rfl <;> rfl) rfl rfl ?_
 intro a2 ba bm ar
 clear ac
 replace ar : Box 38 3 ad a2 a5 #[(.bool aq.1), (.slice a0 aq.2.length a1)] := ar
 refine lN ⟨fun w' => Grow ad a2 ad w', Grow.refl _ _, fun h => absurd h (by decide), ?_⟩
 refine xnil ?_
 replace ak := (ak.gr hC).kp ba
 replace hst := (hst.grow hC).kp ba bm
 intro bn hC
 replace hC : Grow ad a2 ad bn := .of_below hC.below
 refine wret ?_
 cases hm
 replace ak := ak.gr hC
 replace ar := ar.gr hC
 replace hst := hst.grow hC
 exact ⟨rfl, _, res_a rfl rfl Tryz.isAgg38 Tryz.sizeOf38 rfl rfl ar.atN, colF w0.heap.size col ad (fun n => bif Nat.beq n 5 then c1 else 0), a0, a1, rfl, hst.fin (fun n => bif Nat.beq n 5 then c1 else 0), hst.finOwn (g := (fun n => bif Nat.beq n 5 then c1 else 0)) rfl ak (by decide) (by decide) rfl⟩
def m_r02_Norm (N : Nat) (aa : (Bool × (List Int))) : Option (Bool × (List Int)) :=
  (m_r02_Make N aa.1 aa.2).bind fun ab => some (ab.1, ab.2)
theorem c_r02_Norm (N : Nat) (c1 : Nat) (col : Col) (w0 : World) (ab : Option Addr) (ac : Nat) (aa : (Bool × (List Int))) (ag : Sl (Rep.int .u32) col w0 ab ac aa.2) (r : (Bool × (List Int))) (hm : m_r02_Norm N aa = some r) :
    Calls Tryz.prog 177 #[(.agg #[(.bool aa.1), (.slice ab aa.2.length ac)])] w0 (fun e w' => ∃ (col' : Col) (ra1 : Option Addr) (rc2 : Nat), e = .returned ((.agg #[(.bool r.1), (.slice ra1 r.2.length rc2)])) ∧ Grow col w0 col' w' ∧ Own (Rep.int .u32) 114 c1 col' w' ra1 rc2 r.2) := by
 refine calls_ofR (m := 8) (args := [(.agg #[(.bool aa.1), (.slice ab aa.2.length ac)])]) Tryz.func177 rfl rfl rfl ?_
 rw [m_r02_Norm.eq_1] at hm
 have hst := St.start col w0
 refine wS <| wR ?_
 refine l_box (col := (col0 col)) (v := (.agg #[(.bool aa.1), (.slice ab aa.2.length ac)])) 1 rfl rfl ?_
 intro ah aw an ao ad
 replace ad : Box 38 1 an aw ah #[(.bool aa.1), (.slice ab aa.2.length ac)] := ad
 refine l_alloc (col := an) (v := (.agg #[(.bool false), (.slice none (([] : List Int).length) 0)])) 2 rfl Tryz.zeroValue38 ?_
 intro ap ax aq ai ae
 replace ae : Box 38 2 aq ax ap #[(.bool false), (.slice none (([] : List Int).length) 0)] := ae
 refine lN <| wS <| wR <| lV (.pointer ((some (⟨ah, 0, none⟩ : Addr)).map (·.add 0))) (rF (sz := 1) (off := 0) Tryz.underlying38 rfl Tryz.sizeOf4 (by decide) rfl rfl ⟨_, _, rfl⟩) ?_
 replace ad := ad.gr ai
 refine lV (.bool aa.1) (r_ld Tryz.isAgg4 rfl ((ad.atN).nth (q := 0) (v := (.bool aa.1)) rfl)) <| lV (.pointer ((some (⟨ah, 0, none⟩ : Addr)).map (·.add 1))) (rF (sz := 1) (off := 1) Tryz.underlying38 rfl Tryz.sizeOf36 (by decide) rfl rfl ⟨_, _, rfl⟩) <| lV (.slice ab aa.2.length ac) (r_ld Tryz.isAgg36 rfl ((ad.atN).nth (q := 1) (v := (.slice ab aa.2.length ac)) rfl)) ?_
 obtain ⟨af, ay, hm⟩ := bS hm
 replace ag := ((ag.keep (Stay.start col w0)).gr ao).gr ai
 refine lc rfl rfl (r_call2 Tryz.call157 rfl rfl) (c_r02_Make N 3 aq _ aa.1 ab ac aa.2 ag af ay) ?_
 rintro _ a1 ⟨ar, aj, ak, rfl, au, al⟩
 refine ⟨_, rfl, ?_⟩
 replace ae := ae.gr au
 refine l_bstore (v := (.agg #[(.bool af.1), (.slice aj af.2.length ak)])) ae Tryz.sizeOf38 rfl rfl (by intro u hu; simp only [Value.cells, List.mem_cons, List.not_mem_nil, or_false] at hu; rcases hu with rfl | rfl <;> rfl) rfl rfl ?_
 intro az av a0 am
 clear ae
 replace am : Box 38 2 ar az ap #[(.bool af.1), (.slice aj af.2.length ak)] := am
 refine lN ?_
 refine wret ?_
 cases hm
 replace hst := (((hst.grow ao).grow ai).grow au).kp av a0
 replace al := al.kp av
 exact ⟨rfl, _, res_a rfl rfl Tryz.isAgg38 Tryz.sizeOf38 rfl rfl am.atN, colF w0.heap.size col ar (fun n => bif Nat.beq n 3 then c1 else 0), aj, ak, rfl, hst.fin (fun n => bif Nat.beq n 3 then c1 else 0), hst.finOwn (g := (fun n => bif Nat.beq n 3 then c1 else 0)) rfl al (by decide) (by decide) rfl⟩
def m_r02_Sign (N : Nat) (aa : (Bool × (List Int))) : Option Int :=
  (m_r02_Norm N (aa.1, aa.2)).bind fun ab => if (decide ((ab.2.length : Int) = 0)) = true then (some 0) else none
theorem c_r02_Sign (N : Nat) (col : Col) (w0 : World) (ac : Option Addr) (ad : Nat) (aa : (Bool × (List Int))) (ah : Sl (Rep.int .u32) col w0 ac ad aa.2) (r : Int) (hm : m_r02_Sign N aa = some r) :
    Calls Tryz.prog 155 #[(.agg #[(.bool aa.1), (.slice ac aa.2.length ad)])] w0 (fun e w' => e = .returned ((.int .i64 r)) ∧ Below w0.heap.size w0 w') := by
 refine calls_of1 2 (m := 12) (args := [(.agg #[(.bool aa.1), (.slice ac aa.2.length ad)])]) Tryz.func155 rfl rfl rfl rfl rfl ?_
 rw [m_r02_Sign.eq_1] at hm
 have hst := St.start col w0
 refine wS <| wR ?_
 refine l_box (col := (col0 col)) (v := (.agg #[(.bool aa.1), (.slice ac aa.2.length ad)])) 1 rfl rfl ?_
 intro ao ap al am ai
 replace ai : Box 38 1 al ap ao #[(.bool aa.1), (.slice ac aa.2.length ad)] := ai
 refine lA (.int .i64 0) <| lN <| wS <| wR <| lV (.agg #[(.bool aa.1), (.slice ac aa.2.length ad)]) (r_ldN Tryz.isAgg38 Tryz.sizeOf38 rfl rfl ai.atN) ?_
 obtain ⟨ab, aq, hm⟩ := bS hm
 replace ah := (ah.keep (Stay.start col w0)).gr am
 refine lc rfl rfl (r_call1 Tryz.call177 rfl) (c_r02_Norm N 2 al _ ac ad (aa.1, aa.2) ah ab aq) ?_
 rintro _ a0 ⟨ar, ae, af, rfl, au, a1⟩
 refine ⟨_, rfl, ?_⟩
 refine l_alloc (col := ar) (v := (.agg #[(.bool false), (.slice none (([] : List Int).length) 0)])) 3 rfl Tryz.zeroValue38 ?_
 intro aj av an aw ag
 replace ag : Box 38 3 an av aj #[(.bool false), (.slice none (([] : List Int).length) 0)] := ag
 refine l_bstore (v := (.agg #[(.bool ab.1), (.slice ae ab.2.length af)])) ag Tryz.sizeOf38 rfl rfl (by intro u hu; simp only [Value.cells, List.mem_cons, List.not_mem_nil, or_false] at hu; rcases hu with rfl | rfl <;> rfl) rfl rfl ?_
 intro ax ay az ak
 clear ag
 replace ak : Box 38 3 an ax aj #[(.bool ab.1), (.slice ae ab.2.length af)] := ak
 refine lN <| wS <| wS <| wR <| lV (.pointer ((some (⟨aj, 0, none⟩ : Addr)).map (·.add 1))) (rF (sz := 1) (off := 1) Tryz.underlying38 rfl Tryz.sizeOf36 (by decide) rfl rfl ⟨_, _, rfl⟩) <| lV (.slice ae ab.2.length af) (r_ld Tryz.isAgg36 rfl ((ak.atN).nth (q := 1) (v := (.slice ae ab.2.length af)) rfl)) <| lV (.int .i64 (ab.2.length : Int)) (r_len Tryz.underlying36 rfl) <| lV (.bool (decide ((ab.2.length : Int) = 0))) (r_eql (ab.2.length : Int) 0 rfl rfl) <| lN ?_
 replace hst := (((hst.grow am).grow au).grow aw).kp ay az
 refine wcond (decide ((ab.2.length : Int) = 0)) rfl (fun hb => ?_) (fun hb => ?_)
 ·rw [if_pos hb] at hm
  clear hb
  refine wS <| wR <| lA (.int .i64 0) <| lN ?_
  refine wret ?_
  cases hm
  exact ⟨rfl, rfl, hst.below⟩
 rw [if_neg (by rw [hb]; decide)] at hm
 clear hb
 cases hm
def m_r02_Cmp (N : Nat) (aa : (Bool × (List Int))) (ab : (Bool × (List Int))) : Option Int :=
  (m_r02_Sub N (aa.1, aa.2) (ab.1, ab.2)).bind fun ac => (m_r02_Sign N (ac.1, ac.2)).bind fun ad => some ad
theorem c_r02_Cmp (N : Nat) (col : Col) (w0 : World) (ac : Option Addr) (ad : Nat) (aa : (Bool × (List Int))) (ae : Option Addr) (af : Nat) (ab : (Bool × (List Int))) (ai : Sl (Rep.int .u32) col w0 ac ad aa.2) (aj : Sl (Rep.int .u32) col w0 ae af ab.2) (r : Int) (hm : m_r02_Cmp N aa ab = some r) :
    Calls Tryz.prog 132 #[(.agg #[(.bool aa.1), (.slice ac aa.2.length ad)]), (.agg #[(.bool ab.1), (.slice ae ab.2.length af)])] w0 (fun e w' => e = .returned ((.int .i64 r)) ∧ Below w0.heap.size w0 w') := by
 refine calls_of1 4 (m := 9) (args := [(.agg #[(.bool aa.1), (.slice ac aa.2.length ad)]), (.agg #[(.bool ab.1), (.slice ae ab.2.length af)])]) Tryz.func132 rfl rfl rfl rfl rfl ?_
 rw [m_r02_Cmp.eq_1] at hm
 have hst := St.start col w0
 refine wS <| wR ?_
 refine l_box (col := (col0 col)) (v := (.agg #[(.bool aa.1), (.slice ac aa.2.length ad)])) 1 rfl rfl ?_
 intro au av ap ak ag
 replace ag : Box 38 1 ap av au #[(.bool aa.1), (.slice ac aa.2.length ad)] := ag
 refine l_box (col := ap) (v := (.agg #[(.bool ab.1), (.slice ae ab.2.length af)])) 2 rfl rfl ?_
 intro aw ax aq ah al
 replace al : Box 38 2 aq ax aw #[(.bool ab.1), (.slice ae ab.2.length af)] := al
 refine lA (.int .i64 0) <| lN <| wS <| wR ?_
 replace ag := ag.gr ah
 refine lV (.agg #[(.bool aa.1), (.slice ac aa.2.length ad)]) (r_ldN Tryz.isAgg38 Tryz.sizeOf38 rfl rfl ag.atN) <| lV (.agg #[(.bool ab.1), (.slice ae ab.2.length af)]) (r_ldN Tryz.isAgg38 Tryz.sizeOf38 rfl rfl al.atN) ?_
 obtain ⟨am, ay, hm⟩ := bS hm
 replace ai := ((ai.keep (Stay.start col w0)).gr ak).gr ah
 replace aj := ((aj.keep (Stay.start col w0)).gr ak).gr ah
 refine lc rfl rfl (r_call2 Tryz.call156 rfl rfl) (c_r02_Sub N 3 aq _ ac ad (aa.1, aa.2) ae af (ab.1, ab.2) ai aj am ay) ?_
 rintro _ az ⟨an, a0, a1, rfl, a2, a3⟩
 refine ⟨_, rfl, ?_⟩
 obtain ⟨ar, a4, hm⟩ := bS hm
 refine lc rfl rfl (r_call1 Tryz.call155 rfl) (c_r02_Sign N (frC 3 an) _ a0 a1 (am.1, am.2) (a3.toSlF (Froz.int .u32)) ar a4) ?_
 rintro _ a5 ⟨rfl, ao⟩
 refine ⟨_, rfl, ?_⟩
 replace ao : Grow an az an a5 := .of_below ao
 refine lA (.int .i64 ar) <| lN ?_
 refine wret ?_
 cases hm
 replace hst := (((hst.grow ak).grow ah).grow a2).grow ao
 exact ⟨rfl, rfl, hst.below⟩

end Go.Proofs.YtonkjfnjadofpaaGreat
