/- VaryValue, EntV, VarySel, St1, OwnFar, ResOne, St2, St3, St4, St5, St6, St7, OpenT, OpenRep, St9, St11, St12, SgFr, Obt2, RHop04, Clean04, NamesSpec, ChooseSpec. -/
import Derived.Test.YtdbjnlkbhhebbaaGreatDoorK01
import Derived.Test.YtdbjnlkbhhebbaaGreatDoorK02
import Derived.Test.YtdbjnlkbhhebbaaGreatDoorK03
import Derived.Test.YtdbjnlkbhhebbaaGreatDoorK07
import Derived.Deep.RegionHeld3
import Derived.Laws.CopyOwn
import Derived.Laws.OwnMore
import Derived.Lib.LazyBuf
import Derived.RegionTactic
import Derived.BigRegion
import Derived.Laws.ResultCell
import Derived.Deep.RegionWith
import Derived.OpenShut
import Derived.SizedLaws
import Derived.Deep.Slices
import Derived.SliceStrings
import Derived.ChangeSame
import Derived.ArgAppend
import Derived.Maps.AppendAt
import Derived.Lib.SlicesS
set_option maxRecDepth 100000
set_option maxHeartbeats 16000000
set_option linter.all false
namespace Go.Proofs.YtdbjnlkbhhebbaaGreatDoor
open Go.ChangeShapes Go.WideShapes Go.RowKit
open Go.RowKit
theorem vD{B:Nat}{w w1 w2:World}(h:Below B w w1)(k:Below w1.heap.size w1 w2)(hs:B<=w1.heap.size):Below B w w2:=h.trans (k.mono hs)
theorem qG(A:Option Addr)(n c:Nat)(xs:List aU)(name:ByteArray)(w:World)(hr:Rd A n 2 (aJ xs) w)(hn:n<=1000)(hs:∀f∈xs,f.1.length<=2000000/\f.2.length<=2000000)(OQ:name.size<=2000000):Calls Tryz.prog 360 #[.slice A n c,.string name] w λe w'=>e=.returned (.string ⟨(eq xs name.data.toList).toArray⟩)/\Below w.heap.size w w':=by
 have k0:=qN A n c xs name w hr (by omega) (λf hf=>(hs f hf).1) OQ;have QS:=cD xs name.data.toList;have QV:=hr.fld
 have ZC:∀v∈af xs name.data.toList,v.length<=2000000:=by intro v hv;obtain⟨f,hf,e⟩:=i_ hv;rw[<-e];exact(hs f hf).2
 unfold eq;have Vy:(af xs name.data.toList).length<=1000:=by omega
 clear QS QV hr hs;generalize af xs name.data.toList=vs at*;obtain⟨K0,HVB⟩:=az k0 ZC;clear k0 ZC;go_enter Tryz.func360,Tryz.ntmps360
 go_wp2_with fail
 refine K0.out.mono ?_;rintro e w1 ⟨va,vc,rfl,Nr,M8⟩;have HV:=ah Nr.rd.2;have Ni:=aO w1.heap.size w1;clear Nr;go_wp2_with fail
 go_loopw [16,5] (λi l wr=>∃k:Nat,k<=vs.length/\i=.int .i64 k/\Hid (aQ w1.heap.size l (k_ (vs.take k)) wr)/\Below w1.heap.size w1 wr) (λi _ _=>vs.length-(intOf i).toNat)
 case atStart=>exact⟨0,a_ _,rfl,am (aQ.nil _ _),Ni⟩
 case round=>
  clear Ni;obtain⟨k,hk,rfl,HO,M_⟩:=hrel;by_cases Nc:k<vs.length
  ·obtain⟨b,o,rfl,hl,c1⟩:=(HV.out.below M_).str_at (k:=k) Nc;have hv:=HVB.out vs[k] (bQ _);have N5:=Df (vs.take k);rw[dm]at N5;have Oj:=EF (vs.take k) vs[k];rw[<-mc vs k Nc]at Oj;generalize vs[k]=v at*;have Oe:=qL v;have k1:=λw=>tL ⟨v.toArray⟩ 44 w (by rw[aY];exact hv)
   have k2:=λw=>np ⟨v.toArray⟩ w (by rw[aY];exact hv)
   simp only at k1 k2
   have Wp:fN v=bif(ax 44 v).2==0 then(ax 44 v).1 else [bT v]:=rfl;generalize ax 44 v=r at*;generalize bT v=tv at*;generalize fN v=ps at*;obtain⟨ls,er⟩:=r;simp only at Wp
   obtain⟨K1,K2,HP,VO⟩:=bK k1 k2 Wp Oj;clear k1 k2 Wp Oj hv;go_wp2_with fail
   refine(K1.out _).mono ?_;rintro e w2 ⟨pa,pc,rfl,Nz,M9⟩;have hb12:=vD M_ M9 M_.size;have hwr2:=M9.size;have NM:=ah Nz;clear Nz;have HOw:=HO.out.below M9;obtain⟨HOW,HNEW⟩:=az HOw HO.out.lt;clear HOw HO;go_upto_if 26 with(fail)
   go_cut [8] (λs8 wx=>∃pa pc,s8=.slice pa ps.length pc/\Hid (Rd pa ps.length 1 (aF ps) wx/\∀g o,pa=some ⟨g,o,none⟩->wr.heap.size<=g)/\Below w2.heap.size w2 wx)
   case first=>
    cases he:(er==0)
    ·have n1:(er !=0)=true:=by simp[bne,he]
     have Pb:=HP.out;rw[he,cond_false]at Pb;have Wr:=ah Pb;clear Pb HP;go_wp2_with (go_at_call 109;refine(K2.out _).mono ?_;rintro e w3 ⟨rfl,Na⟩)
     go_meet;rw[Wr.out];refine⟨_,_,rfl,am ⟨⟨rfl,λ_=>⟨_,_,rfl,by simp,λj u hu=>?_⟩⟩,?_⟩,Na.alloc Na.size _⟩
     ·rw[iq,cK];simpa[aF]using hu
     ·intro g o e
      cases e
      have:=Na.size;omega
    ·have n1:(er !=0)=false:=by simp[bne,he]
     have Pb:=HP.out;rw[he,cond_true]at Pb;have Wr:=ah Pb;clear Pb HP;go_wp2;go_meet;rw[Wr.out];exact⟨_,_,rfl,am ⟨NM.out.rd.2,mf NM.out⟩,aO _ _⟩
   case rest=>
    obtain⟨qa,qc,rfl,HQ,Na⟩:=hcut;have hbc:=vD hb12 Na (by have:=M_.size;omega)
    have Nd:Hid (aQ w1.heap.size u5 (k_ (vs.take k)++i8 (ps.take 0)) wc/\xM u5 qa ps.length/\Rd qa ps.length 1 (aF ps) wc):=by
     refine am ⟨?_,?_,HQ.out.1⟩
     ·have:i8 (ps.take 0)=[]:=rfl;rw[this,e9];exact HOW.out.below Na
     ·intro _ g o e x;have h1:=(HNEW.out g x).2;have h2:=HQ.out.2 g o e;omega
    clear HQ HOW NM HNEW HP K1 K2 Na M9 hb12 hwr2;go_wp2_with fail
    go_loopw [32,5] (λj l wi=>∃m:Nat,m<=ps.length/\j=.int .i64 m/\Hid (aQ w1.heap.size l (k_ (vs.take k)++i8 (ps.take m)) wi/\xM l qa ps.length/\Rd qa ps.length 1 (aF ps) wi)/\Below w1.heap.size w1 wi) (λj _ _=>ps.length-(intOf j).toNat)
    case atStart=>exact⟨0,a_ _,rfl,Nd,hbc⟩
    case round=>
     clear Nd hbc;obtain⟨m,hm,rfl,HI,Ql⟩:=hrel;by_cases Qm:m<ps.length
     ·obtain⟨b2,o2,rfl,Nq,c2⟩:=HI.out.2.2.str_at (k:=m) Qm;have Uy:=BJ (ps.take m) ps[m];rw[<-mc ps m Qm]at Uy;have PS:=At (ps.take m);rw[dm]at PS;have hcount:(k_ (vs.take k)++i8 (ps.take m)).length<=1000000000:=by rw[bP];omega
      generalize ps[m]=p at*
      cases he:p.isEmpty
      ·rw[he,if_neg (by decide)]at Uy;have HK:=ah Uy;clear Uy;go_wp2_with (at_builtin;refine gq w1.heap.size p HI.out.1 Ql.size hcount rfl _ _ rfl rfl rfl ?_)
       intro v' w3 Po Nf Qj;have P6:=Ql.trans Nf
       have Xb:Hid (aQ w1.heap.size v' (k_ (vs.take k)++i8 (ps.take (m+1))) w3/\xM v' (some ⟨b2,o2,none⟩) ps.length/\Rd (some ⟨b2,o2,none⟩) ps.length 1 (aF ps) w3):=by obtain⟨h1,h2⟩:=HI.out.2.2.far Qj HI.out.2.1;refine am ⟨?_,h2,h1⟩;rw[HK.out];exact Po
       clear Po Nf Qj HI HK c2;go_wp2;go_roundw
       case rel=>exact⟨m+1,by omega,by go_num,Xb,P6⟩
       case measure=>simp[intOf];omega
      ·rw[he,if_pos rfl]at Uy
       have Xb:Hid (aQ w1.heap.size u5 (k_ (vs.take k)++i8 (ps.take (m+1))) wr/\xM u5 (some ⟨b2,o2,none⟩) ps.length/\Rd (some ⟨b2,o2,none⟩) ps.length 1 (aF ps) wr):=by rw[Uy];exact HI
       clear Uy HI;go_wp2;go_roundw
       case rel=>exact⟨m+1,by omega,by go_num,Xb,Ql⟩
       case measure=>simp[intOf];omega
     ·have Sm:m=ps.length:=by omega
      subst Sm
      have NM:Hid (aQ w1.heap.size u5 (k_ (vs.take (k+1))) wr):=by refine am ?_;have:=HI.out.1;rw[eM,<-VO.out]at this;exact this
      clear HI VO;go_wp2;go_roundw
      case rel=>exact⟨k+1,by omega,by go_num,NM,Ql⟩
      case measure=>simp[intOf];omega
  ·have NI:k=vs.length:=by omega
   subst NI;have ho:=HO.out;rw[eM]at ho;obtain⟨la,lc,rfl⟩:=ho.shape;have OW:=ah ho;clear ho HO;have N5:=Df vs;have OG:aT (k_ vs)<=1000*2000000:=bj (s_ vs) (bj (qU 2000000 vs HVB.out) (Nat.mul_le_mul_right _ Vy));have k3:=yx w1.heap.size lc la (k_ vs) ⟨#[44,32]⟩ wr OW.out (by omega) (by rw[show(⟨#[44,32]⟩:ByteArray).size=2 from rfl];omega);have K3:=ah k3;clear k3;go_wp2_with (go_at_call 179;refine K3.out.mono ?_;rintro e w3 ⟨rfl,Na⟩)
   go_ret;exact⟨rfl,(M8.trans (M_.mono M8.size)).trans (Na.mono (by have:=M8.size;have:=M_.size;omega))⟩
theorem Ck(A:Option Addr)(n c:Nat)(xs:List aU)(name:ByteArray)(w:World)(hr:Rd A n 2 (aJ xs) w)(hn:n<=1000)(hs:∀f∈xs,f.1.length<=1000000/\f.2.length<=1000000)(OQ:name.size<=1000000):Calls Tryz.prog 360 #[.slice A n c,.string name] w λe w'=>e=.returned (.string ⟨(eq xs name.data.toList).toArray⟩)/\Below w.heap.size w w':=qG A n c xs name w hr hn (λf hf=>⟨bj (hs f hf).1 (by decide),bj (hs f hf).2 (by decide)⟩) (by omega)
def dI(st:Int)(re:ByteArray)(mi:Int)(A:Option Addr)(n c:Nat)(bo:ByteArray)(asked got:Int)(V:Option Addr)(m d:Nat):Value:=.agg #[.int .i64 st,.string re,.int .i64 mi,.slice A n c,.string bo,.int .i64 asked,.int .i64 got,.slice V m d]
def fB(names:List (List UInt8))(xs:List aU):List aU:=names.map λnm=>(nm,eq xs nm)
def gh(es xs:List aU):Bool:=es.all λf=>eq xs f.1==f.2
theorem Cx(N:Option Addr)(nn nc:Nat)(names:List (List UInt8))(A:Option Addr)(n c:Nat)(xs:List aU)(w:World)(hN:Rd N nn 1 (aF names) w)(hnn:nn<=1000000)(T7:∀x∈names,x.length<=1000000)(hr:Rd A n 2 (aJ xs) w)(hn:n<=1000)(hs:∀f∈xs,f.1.length<=1000000/\f.2.length<=1000000):Calls Tryz.prog 291 #[.slice N nn nc,.slice A n c] w (eT w (fB names xs)):=by
 obtain rfl:=hN.str;have hB:=aO w.heap.size w
 have k1:∀(w':World)(nm:List UInt8),Below w.heap.size w w'->nm.length<=1000000->Calls Tryz.prog 360 #[.slice A n c,.string ⟨nm.toArray⟩] w' λe w2=>e=.returned (.string ⟨(eq xs nm).toArray⟩)/\Below w'.heap.size w' w2:=λw' nm hb hl=>Ck A n c xs ⟨nm.toArray⟩ w' (hr.below hb) hn hs (by rw[aY];exact hl)
 obtain⟨K1,HN,HL⟩:=bu k1 hN T7;clear k1 hr hs hN T7;go_enter Tryz.func291,Tryz.ntmps291
 go_wp2;go_loopw [13,6] (λi out wr=>∃k:Nat,k<=names.length/\i=.int .i64 k/\Hid (aM w.heap.size out (fB (names.take k) xs) wr)/\Below w.heap.size w wr) (λi _ _=>names.length-(intOf i).toNat)
 case atStart=>exact⟨0,a_ _,rfl,am (aM.nil _ _),hB⟩
 case round=>
  clear hB;obtain⟨k,hk,rfl,HO,M_⟩:=hrel;by_cases Nc:k<names.length
  ·obtain⟨b,o,rfl,hl,c1⟩:=(HN.out.below M_).str_at (k:=k) Nc;have hv:=HL.out names[k] (bQ _);have Oj:fB (names.take (k+1)) xs=fB (names.take k) xs++[(names[k],eq xs names[k])]:=by rw[mc names k Nc];unfold fB;rw[cO];rfl
   have hlen:(fB (names.take k) xs).length<=1000000000:=by unfold fB;rw[eE,dm];omega
   generalize names[k]=nm at*;have VO:=ah Oj;clear Oj;go_wp2_with fail
   refine(K1.out _ nm M_ hv).mono ?_;rintro e w2 ⟨rfl,M9⟩;have Na:=M_.trans (M9.mono M_.size);have NM:=ah (HO.out.below M9);go_wp2_with (at_builtin;refine mh w.heap.size (nm,eq xs nm) NM.out Na.size hlen rfl _ _ rfl rfl rfl ?_)
   intro v' w3 Po Nf _;have P6:=Na.trans Nf;have Ob:Hid (aM w.heap.size v' (fB (names.take (k+1)) xs) w3):=by rw[VO.out];exact am Po
   clear Po Nf Na M9 NM HO;go_wp2;go_roundw
   case rel=>exact⟨k+1,by omega,by go_num,Ob,P6⟩
   case measure=>simp[intOf];omega
  ·have NI:k=names.length:=by omega
   subst NI;have ho:=HO.out;rw[eM]at ho;obtain⟨la,lc,rfl⟩:=ho.shape;have OW:=ah ho;clear ho HO;go_wp2;go_ret;exact⟨la,lc,rfl,OW.out,M_⟩
theorem wD(st:Int)(re:ByteArray)(mi:Int)(fa:Option Addr)(fn fc:Nat)(bo:ByteArray)(asd gt:Int)(va:Option Addr)(vn vc:Nat)(es:List aU)(A:Option Addr)(n c:Nat)(xs:List aU)(w:World)(hE:Rd va vn 2 (aJ es) w)(Vy:vn<=1000000)(hel:∀f∈es,f.1.length<=1000000)(hr:Rd A n 2 (aJ xs) w)(hn:n<=1000)(hs:∀f∈xs,f.1.length<=2000000/\f.2.length<=2000000):Calls Tryz.prog 282 #[dI st re mi fa fn fc bo asd gt va vn vc,.slice A n c] w λe w'=>e=.returned (.bool (gh es xs))/\Below w.heap.size w w':=by
 obtain rfl:=hE.fld;have hB:=(aO w.heap.size w).alloc (aw _) (.cells #[.int .i64 st,.string re,.int .i64 mi,.slice fa fn fc,.string bo,.int .i64 asd,.int .i64 gt,.slice va es.length vc] 105)
 have k1:∀(w':World)(nm:List UInt8),Below w.heap.size w w'->nm.length<=1000000->Calls Tryz.prog 360 #[.slice A n c,.string ⟨nm.toArray⟩] w' λe w2=>e=.returned (.string ⟨(eq xs nm).toArray⟩)/\Below w'.heap.size w' w2:=λw' nm hb hl=>qG A n c xs ⟨nm.toArray⟩ w' (hr.below hb) hn hs (by rw[aY];exact bj hl (by decide))
 have hY:∀k(h:k<es.length),(eq xs (es[k]).1==(es[k]).2)=false->gh es xs=false:=by intro k h hk;unfold gh;rw[List.all_eq_false];exact⟨es[k],bQ _,by simp[hk]⟩
 have hZ:(∀k(h:k<es.length),(eq xs (es[k]).1==(es[k]).2)=true)->gh es xs=true:=by intro h;unfold gh;rw[dH];intro f hf;obtain⟨k,hk,e⟩:=List.mem_iff_getElem.1 hf;rw[<-e];exact h k hk
 obtain⟨K1,HE,HL,HY,HZ⟩:=gB k1 hE hel hY hZ;clear k1 hr hs hE hel hY hZ;generalize gh es xs=out at*;unfold dI;go_enter Tryz.func282,Tryz.ntmps282
 go_wp2;go_loopw [13] (λi wr=>∃k:Nat,k<=es.length/\i=.int .i64 k/\Hid (∀j(h:j<es.length),j<k->(eq xs (es[j]).1==(es[j]).2)=true)/\Below w.heap.size w wr) (λi _=>es.length-(intOf i).toNat)
 case atStart=>exact⟨0,a_ _,rfl,am (λj h hj=>absurd hj (by omega)),hB⟩
 case round=>
  clear hB;obtain⟨k,hk,rfl,HA,M_⟩:=hrel;by_cases Nc:k<es.length
  ·obtain⟨b,o,rfl,hl,c1,c2⟩:=(HE.out.below M_).fld_at (k:=k) Nc;have hv:=HL.out es[k] (bQ _);have hy:=HY.out k Nc
   have hz:(eq xs (es[k]).1==(es[k]).2)=true->Hid (∀j(h:j<es.length),j<k+1->(eq xs (es[j]).1==(es[j]).2)=true):=by
    intro e;refine am λj h hj=>?_
    by_cases hjk:j=k
    ·subst hjk;exact e
    ·exact HA.out j h (by omega)
   generalize es[k]=f at*;obtain⟨f1,f2⟩:=f;simp only at c1 c2 hv hy hz
   obtain⟨Hy,Hz⟩:=az hy hz;clear hy hz HA;go_wp2_with fail
   obtain⟨W,hW⟩:=bg wr (.cells #[.string ⟨f1.toArray⟩,.string ⟨f2.toArray⟩] 70);have e1:W.cell? ⟨wr.heap.size,0,none⟩=some (.string ⟨f1.toArray⟩):=by rw[<-hW];exact cK wr _ _ _ 0
   have e2:W.cell? ⟨wr.heap.size,1,none⟩=some (.string ⟨f2.toArray⟩):=by rw[<-hW];exact cK wr _ _ _ 1
   have e3:Below w.heap.size w W:=by rw[<-hW];exact M_.alloc M_.size _
   have e4:wr.heap.size<W.heap.size:=by rw[<-hW];simp
   rw[hW];clear hW c1 c2
   cases hq:(eq xs f1==f2)
   ·have hf:=Hy.out hq;have Hf:=ah hf;have q2:(!eq xs f1==f2)=true:=by rw[hq];rfl
    clear hf;go_region_held3 (λw'=>w'.cell? ⟨wr.heap.size,0,none⟩=some (.string ⟨f1.toArray⟩)/\w'.cell? ⟨wr.heap.size,1,none⟩=some (.string ⟨f2.toArray⟩)/\Below w.heap.size w w'/\wr.heap.size<w'.heap.size) (first|exact⟨e1,e2,e3,e4⟩|exact⟨e1,e2,e3.drew,e4⟩|exact⟨d1,d2,d3,d4⟩|exact⟨d1,d2,d3.drew,d4⟩) (first|(go_at_call 360;obtain⟨g1,g2,g3,g4⟩:=‹_/\_/\Below w.heap.size w _/\_<_›;refine(K1.out _ f1 g3 hv).mono ?_;rintro e w2 ⟨rfl,M9⟩;have d1:=(M9.cell (p:=⟨wr.heap.size,0,none⟩) g4).trans g1;have d2:=(M9.cell (p:=⟨wr.heap.size,1,none⟩) g4).trans g2;have d3:=g3.trans (M9.mono g3.size);have d4:=bE g4 M9.size))
    obtain⟨g1,g2,g3,g4⟩:=‹_/\_/\Below w.heap.size w _/\_<_›;go_wp2;go_ret;rw[Hf.out];exact⟨rfl,g3⟩
   ·have hz:=Hz.out hq;have q2:(!eq xs f1==f2)=false:=by rw[hq];rfl
    go_region_held3 (λw'=>w'.cell? ⟨wr.heap.size,0,none⟩=some (.string ⟨f1.toArray⟩)/\w'.cell? ⟨wr.heap.size,1,none⟩=some (.string ⟨f2.toArray⟩)/\Below w.heap.size w w'/\wr.heap.size<w'.heap.size) (first|exact⟨e1,e2,e3,e4⟩|exact⟨e1,e2,e3.drew,e4⟩|exact⟨d1,d2,d3,d4⟩|exact⟨d1,d2,d3.drew,d4⟩) (first|(go_at_call 360;obtain⟨g1,g2,g3,g4⟩:=‹_/\_/\Below w.heap.size w _/\_<_›;refine(K1.out _ f1 g3 hv).mono ?_;rintro e w2 ⟨rfl,M9⟩;have d1:=(M9.cell (p:=⟨wr.heap.size,0,none⟩) g4).trans g1;have d2:=(M9.cell (p:=⟨wr.heap.size,1,none⟩) g4).trans g2;have d3:=g3.trans (M9.mono g3.size);have d4:=bE g4 M9.size))
    obtain⟨g1,g2,g3,g4⟩:=‹_/\_/\Below w.heap.size w _/\_<_›;go_wp2;go_roundw
    case rel=>exact⟨k+1,by omega,by go_num,hz,g3⟩
    case measure=>simp[intOf];omega
  ·have hf:=HZ.out (λj h=>HA.out j h (by omega));have Hf:=ah hf;clear hf;go_wp2;go_ret;rw[Hf.out];exact⟨rfl,M_⟩
theorem yM(A:Option Addr)(n c:Nat)(xs:List aU)(w:World)(hr:Rd A n 2 (aJ xs) w)(hn:n<=1000000)(hs:aE xs<=1000000000):Calls Tryz.prog 366 #[.slice A n c] w λe w'=>e=.returned (.int .i64 (aE xs:Nat))/\Below w.heap.size w w':=by
 obtain rfl:=hr.fld;have Oj:=qe xs;have hle:=lw xs;have P7:∀k,k=xs.length->aE (xs.take k)=aE xs:=by rintro k rfl;rw[eM]
 have Tq:aE (xs.take 0)=0:=rfl;obtain⟨HR,Su,HLE,HF,TV⟩:=gB hr Oj hle P7 Tq;clear hr Oj hle P7 Tq;go_enter Tryz.func366,Tryz.ntmps366
 go_wp2;go_loopw [8,3] (λi x wr=>∃(k:Nat) (s:Int),k<=xs.length/\i=.int .i64 k/\x=.int .i64 s/\Hid (s=(aE (xs.take k):Nat))/\0<=s/\s<=1000000000/\Below w.heap.size w wr) (λi _ _=>xs.length-(intOf i).toNat)
 case atStart=>exact⟨0,0,a_ _,rfl,rfl,am (by rw[TV.out];rfl),by omega,by omega,aO _ _⟩
 case round=>
  obtain⟨k,s,hk,rfl,rfl,HE,hs0,P8,M_⟩:=hrel;by_cases Nc:k<xs.length
  ·obtain⟨b,o,rfl,hl,c1,c2⟩:=(HR.out.below (M_.mono (aw _))).fld_at (k:=k) Nc;have h1:=Su.out k Nc;have h2:=HLE.out (k+1);generalize xs[k]=f at*;obtain⟨f1,f2⟩:=f;simp only at c1 c2 h1
   have hz:s+((f1.length:Int)+(f2.length:Int))=(aE (xs.take (k+1)):Nat):=by rw[HE.out,h1];omega
   have N6:s+((f1.length:Int)+(f2.length:Int))<=1000000000:=by rw[hz];omega
   have HZ:=ah hz;clear h1 h2 hz;have w1:IntKind.i64.wrap ((f1.length:Int)+(f2.length:Int))=(f1.length:Int)+(f2.length:Int):=by rw[b_];omega
   have w2:IntKind.i64.wrap (s+((f1.length:Int)+(f2.length:Int)))=s+((f1.length:Int)+(f2.length:Int)):=by rw[b_];omega
   go_wp2;go_roundw
   case rel=>exact⟨k+1,s+((f1.length:Int)+(f2.length:Int)),by omega,by go_num,by go_num,HZ,by omega,N6,M_.alloc M_.size _⟩
   case measure=>simp[intOf];omega
  ·have NI:k=xs.length:=by omega
   have hz:=HE.out;rw[HF.out k NI]at hz;subst hz;clear HE;go_wp2;go_ret;exact⟨rfl,M_⟩
theorem uB{P:Program}(w:World)(dT sT ty elem:TypeId)(size:Nat)(g Zw dCap:Nat)(a:Addr)(Y5 sCap:Nat)(cur:Array Value)(t:TypeId)(cs:List Value)(hu:P.underlying dT=some (.slice elem))(hs:(P.info? elem).map (·.size)=some size)(hg:w.heap[g]?=some (.cells cur t (0,0)))(hn:cs.length=Nat.min Y5 Zw*size)(hsrc:∀j v,cs[j]?=some v->w.cell? (a.add j)=some v)(Q4:cs.length<=cur.size)(h1:∀v∈cs,v.oneCell'=true):(Builtin.copy_ #[dT,sT] ty #[.slice (some ⟨g,0,none⟩) Zw dCap,.slice (some a) Y5 sCap]).run P w =.ok (goInt (Nat.min Y5 Zw)) (w.setRow g (cs++cur.toList.drop cs.length).toArray):=by
 have hl:=run_loadCells_list (P:=P) w a cs hsrc;have Nd:=run_storeCells_at P g 0 t cs 0 cur w hg (by simpa using Q4) h1
 cases hq:P.info? elem with
 |none=>simp[hq]at hs
 |some i=>
  have hi:i.size=size:=by simpa[hq]using hs
  simp only[iq,List.take_zero,lp]at Nd;simp[Builtin.copy_,run_underlying hu,Builtin.lenOf,Builtin.firstCells,sizeOf,typeInfo,hq,hi,<-hn,hl,Nd]
theorem tW(A:Option Addr)(n c:Nat)(xs:List aU)(w:World)(hr:Rd A n 2 (aJ xs) w)(hn:n<=1000000):Calls Tryz.prog 363 #[.slice A n c] w (eT w xs):=by
 obtain rfl:=hr.fld
 cases A with
 |none=>
  have h0:xs.length=0:=by
   rcases mw xs.length with h|h
   ·exact h
   ·obtain⟨b,o,e,_⟩:=hr.2 h;cases e
  have hx:xs=[]:=mz h0;subst hx;have he:(binOp .eql 36 (.slice none 0 c) (.slice none 0 0)).run Tryz.prog w=.ok (.bool true) w:=by exact Lib.run_eql_slice_nil (h:=Tryz.underlying36) ..
  simp only[ic];clear hr;go_enter Tryz.func363,Tryz.ntmps363
  go_wp2;go_ret;exact⟨none,0,rfl,aM.nil _ _,aO _ _⟩
 |some ad=>
  obtain⟨i0,hi,N_,NZ,N6⟩:=info_parts Jm;obtain⟨W1,hmk,Nj,NF⟩:=run_make_full (P:=Tryz.prog) w w.heap.size 36 70 i0 _ 2 Tryz.underlying36 hi N_ NZ .i64 .i64 xs.length (by rw[N6];omega) (by unfold maxLen;omega) (aw _);obtain⟨Yv,h2⟩:=Nj;rcases h2 with⟨hv,_⟩|⟨g,cap,cur,hv,hg,hh,Pd,US,SB,hcx⟩
  ·cases hv
  ·injection hv with P5 Od Rh
   injection P5 with P5
   injection P5 with P5
   subst P5;subst Rh;have M8:Below w.heap.size w W1:=⟨NF.os,NF.tape,NF.output,NF.size,λk hk=>NF.block k hk (by simp)⟩;have O0:=hr.below M8;have O4:=eI xs;have XU:Nat.min xs.length xs.length=xs.length:=Nat.min_self _
   have hcp:=fun ty=>uB (P:=Tryz.prog) W1 36 36 ty 70 2 w.heap.size xs.length xs.length ad xs.length c cur 70 (aJ xs) Tryz.underlying36 (by rw[hi];simp[NZ]) hh (by rw[O4,XU]) (fun j v hj=>by
    have hp:0<xs.length:=by
     rcases mw xs.length with h|h
     ·have:xs=[]:=mz h;subst this;cases hj
     ·exact h
    obtain⟨b,o,e,_,hc⟩:=O0.2 hp;injection e with e
    subst e;have e2:(⟨b,o,none⟩:Addr).add j=⟨b,o+j,none⟩:=by unfold Addr.add;split<;>simp_all
    rw[e2];exact hc j v hj) (by rw[O4,SB];exact aw _) (pY xs)
   have W_:cur.toList.drop (aJ xs).length=[]:=by
    apply List.drop_eq_nil_of_le
    rw[O4,Array.length_toList,SB];exact aw _
   rw[W_,e9,XU]at hcp
   have Nn:(W1.setRow w.heap.size (aJ xs).toArray).ownsRow w.heap.size 70 2 (.slice (some ⟨w.heap.size,0,none⟩) xs.length xs.length) xs.length (aJ xs):=⟨O4,Or.inr ⟨w.heap.size,xs.length,(aJ xs).toArray,rfl,aw _,setRow_heap W1 _ cur _ _ _ hh,aw _,US,by simp[O4],by simp[<-O4]⟩⟩
   have hbf:Below w.heap.size w (W1.setRow w.heap.size (aJ xs).toArray):=below_setRow M8 (aw _) _;have PW:=ah (aB Nn hbf);have he:(binOp .eql 36 (.slice (some ad) xs.length c) (.slice none 0 0)).run Tryz.prog w=.ok (.bool false) w:=by exact Lib.run_eql_slice_nil (h:=Tryz.underlying36) ..
   clear Nn hbf hcx XU SB hh O0 M8 NF hr W_ O4 Yv;go_enter Tryz.func363,Tryz.ntmps363
   go_wp2;go_ret;exact⟨_,_,rfl,PW.out.1,PW.out.2⟩
theorem CI{B:Nat}{e:TypeId}{size:Nat}{v:Value}{n:Nat}{xs:List Value}{w w1:World}{o:Option Nat}(h:w.ownsRow B e size v n xs)(hg:w.grownBy w1 o)(Ng:∀g,v.ownBlock=some g->o≠some g):w1.ownsRow B e size v n xs:=by
 obtain⟨h1,h2⟩:=h;refine⟨h1,?_⟩;rcases h2 with h2|⟨g,cap,cur,hv,hgB,hh,r⟩
 ·exact Or.inl h2
 ·refine Or.inr ⟨g,cap,cur,hv,hgB,?_,r⟩
  have Qh:g<w.heap.size:=by
   rcases ef g w.heap.size with h'|h'
   ·exact h'
   ·simp[fy h']at hh
  rw[hg.block g Qh (λx=>Ng g (by rw[hv];rfl) x.symm)];exact hh
theorem fT{fn:Func}{p:Tmp}{ty:TypeId}(h:fn.results=#[.cell p ty])(tmps:Array Value)(P:Program)(w:World):(results fn tmps).run P w=((asAddr (tmps.getD p undef)).run P w).andThen λa w₁=>(loadVar ty a).run P w₁:=by
 simp only[results,h];simp[Sem.run_bind,Result.andThen]
 try rfl
theorem bp{B g:Nat}{v:Value}{fs:List aU}{w:World}(j:Nat)(x:Value)(h:aM B v fs w)(Ng:v.ownBlock≠some g):aM B v fs (w.setCell ⟨g,j,none⟩ x):=CI h (al w g j x) (λk hk e=>Ng (by rw[hk,<-e]))
def nZ(key re bo:ByteArray)(fl vl:List aU):Int:=64+(key.size:Int)+(re.size:Int)+(aE fl:Nat)+(bo.size:Int)+(aE vl:Nat)
theorem Co(key:ByteArray)(st mi asked got:Int)(re bo:ByteArray)(A V:Option Addr)(n c m d:Nat)(fl vl:List aU)(w:World)(hr:Rd A n 2 (aJ fl) w)(hq:Rd V m 2 (aJ vl) w)(hn:n<=1000000)(hm:m<=1000000)(hs:aE fl<=1000000000)(ht:aE vl<=1000000000)(hk:key.size<=140737488355328)(PC:re.size<=140737488355328)(O9:bo.size<=140737488355328):Calls Tryz.prog 305 #[.string key,dI st re mi A n c bo asked got V m d] w λe w'=>e=.returned (.int .i64 (nZ key re bo fl vl))/\Below w.heap.size w w':=by
 unfold nZ dI;have k1:=λW(hb:Below w.heap.size w W)=>yM A n c fl W (hr.below hb) hn hs
 have k2:=λW(hb:Below w.heap.size w W)=>yM V m d vl W (hq.below hb) hm ht
 obtain⟨W1,Ne⟩:=bg w (.cells #[.int .i64 st,.string re,.int .i64 mi,.slice A n c,.string bo,.int .i64 asked,.int .i64 got,.slice V m d] 105);have b1:=bm Ne;have x1:=dU Ne;have z1:w.heap.size<W1.heap.size:=by rw[<-Ne];simp
 have kc:∀w',Below W1.heap.size W1 w'->w'.cell? ⟨w.heap.size,1,none⟩=some (.string re)/\w'.cell? ⟨w.heap.size,3,none⟩=some (.slice A n c)/\w'.cell? ⟨w.heap.size,4,none⟩=some (.string bo)/\w'.cell? ⟨w.heap.size,7,none⟩=some (.slice V m d)/\Below W1.heap.size W1 w':=λw' hb=>by have x4:=(hb.block w.heap.size z1).trans x1;exact⟨(ab x4 1).1,(ab x4 3).1,(ab x4 4).1,(ab x4 7).1,hb⟩
 have PD:Below W1.heap.size W1 W1.drew:=(aO _ _).drew;have a1:IntKind.i64.wrap (64+(key.size:Int))=64+(key.size:Int):=by rw[b_];omega
 have a2:IntKind.i64.wrap (64+(key.size:Int)+(re.size:Int))=64+(key.size:Int)+(re.size:Int):=by rw[b_];omega
 have a3:IntKind.i64.wrap (64+(key.size:Int)+(re.size:Int)+(aE fl:Nat))=64+(key.size:Int)+(re.size:Int)+(aE fl:Nat):=by rw[b_];omega
 have a4:IntKind.i64.wrap (64+(key.size:Int)+(re.size:Int)+(aE fl:Nat)+(bo.size:Int))=64+(key.size:Int)+(re.size:Int)+(aE fl:Nat)+(bo.size:Int):=by rw[b_];omega
 have a5:IntKind.i64.wrap (64+(key.size:Int)+(re.size:Int)+(aE fl:Nat)+(bo.size:Int)+(aE vl:Nat))=64+(key.size:Int)+(re.size:Int)+(aE fl:Nat)+(bo.size:Int)+(aE vl:Nat):=by rw[b_];omega
 obtain⟨NC,QX,KC,K1,K2⟩:=gB Ne b1 kc k1 k2;clear Ne b1 x1 z1 kc k1 k2 hr hq hs ht;go_enter Tryz.func305,Tryz.ntmps305
 go_upto_region 1 with(fail)
 rw[NC.out];refine BW KC.out PD λM7=>?_
 refine aX 0 1 2 3 M7 ?_;refine aX 4 5 6 7 M7 ?_;refine aX 8 9 10 13 M7 ?_;refine aX 14 15 16 18 M7 ?_;refine fM 19 M7 ?_;refine cL 11 λK hK=>?_
 go_simp;refine(K1.out _ (bt QX.out PD)).mono ?_;rintro e v1 ⟨rfl,P5⟩;have OX:=bt PD P5;go_wp2_with fail
 refine hK.out _ _ (KC.out _ OX) (λM7=>?_);clear hK K;refine eC 12 17 M7 ?_;refine cL 20 λK hK=>?_
 go_simp;refine(K2.out _ (bt QX.out OX)).mono ?_;rintro e v2 ⟨rfl,Od⟩;have Oc:=bt OX Od;go_wp2_with fail
 refine hK.out _ _ (KC.out _ Oc) (λM7=>?_);clear hK K;refine eC 21 22 M7 ?_;refine wpAnyH_done (by kernel_rfl) ?_ _;clear M7;go_wp2;go_ret;exact⟨rfl,bt QX.out Oc⟩
def Eu(w:World)(st mi asked got:Int)(re bo:ByteArray)(fl vl:List aU)(e:Ending)(w':World):Prop:=∃a ac v vc,e=.returned (dI st re mi a fl.length ac bo asked got v vl.length vc)/\aM w.heap.size (.slice a fl.length ac) fl w'/\aM w.heap.size (.slice v vl.length vc) vl w'/\Below w.heap.size w w'
theorem wv(st mi asked got:Int)(re bo:ByteArray)(A V:Option Addr)(n c m d:Nat)(fl vl:List aU)(w:World)(hr:Rd A n 2 (aJ fl) w)(hq:Rd V m 2 (aJ vl) w)(hn:n<=1000000)(hm:m<=1000000):Calls Tryz.prog 285 #[dI st re mi A n c bo asked got V m d] w (Eu w st mi asked got re bo fl vl):=by
 unfold dI;have k1:=λW(hb:Below w.heap.size w W)=>tW A n c fl W (hr.below hb) hn
 have k2:=λW(hb:Below w.heap.size w W)=>tW V m d vl W (hq.below hb) hm
 obtain⟨W1,Ne⟩:=bg w (.cells #[.int .i64 st,.string re,.int .i64 mi,.slice A n c,.string bo,.int .i64 asked,.int .i64 got,.slice V m d] 105);obtain⟨W2,Nw⟩:=bg W1 Mr;have z1:W1.heap.size=w.heap.size+1:=by rw[<-Ne];simp
 obtain⟨K1,K2,NC,Of⟩:=bK k1 k2 Ne Nw;clear k1 k2 Ne Nw;go_enter Tryz.func285,Tryz.ntmps285
 go_upto_region 1 with(fail)
 rw[NC.out,Of.out];have z2:W2.heap.size=w.heap.size+2:=by rw[<-Of.out];simp[z1]
 have b2:Below w.heap.size w W2:=by
  have b1:Below w.heap.size w W1:=by rw[<-NC.out];exact(aO w.heap.size w).alloc (aw _) _
  rw[<-Of.out];exact b1.alloc b1.size _
 have x1:W2.heap[w.heap.size]?=some (.cells #[.int .i64 st,.string re,.int .i64 mi,.slice A n c,.string bo,.int .i64 asked,.int .i64 got,.slice V m d] 105 (0,0)):=by
  have b1:Below W1.heap.size W1 W2:=by rw[<-Of.out];exact(aO _ _).alloc (aw _) _
  rw[b1.block _ (by omega),<-NC.out];exact ay w _ _ rfl
 have x2:W2.heap[w.heap.size+1]?=some (.cells #[.int .i64 0,.string ⟨#[]⟩,.int .i64 0,.slice none 0 0,.string ⟨#[]⟩,.int .i64 0,.int .i64 0,.slice none 0 0] 105 (0,0)):=by rw[<-Of.out,<-z1];exact ay W1 _ _ rfl
 have kc:∀w',Below W2.heap.size W2 w'->w'.cell? ⟨w.heap.size,3,none⟩=some (.slice A n c)/\w'.cell? ⟨w.heap.size,7,none⟩=some (.slice V m d)/\w'.frozen? ⟨w.heap.size,3,none⟩=false/\w'.frozen? ⟨w.heap.size,7,none⟩=false:=λw' hb=>by have x4:=(hb.block w.heap.size (by omega)).trans x1;exact⟨(ab x4 3).1,(ab x4 7).1,(ab x4 3).2.1,(ab x4 7).2.1⟩
 have hd:Below W2.heap.size W2 W2.drew:=(aO _ _).drew;obtain⟨KC,B2⟩:=az kc b2;obtain⟨c3,c7,f3,f7⟩:=kc _ hd;clear kc b2;go_region_with (go_at_call 363;(first|(with_reducible refine(K1.out _ (bt B2.out hd)).mono ?_)|(with_reducible refine(K2.out _ (bt B2.out hd)).mono ?_));rintro e v2 ⟨a2,Ve,rfl,Nz,M9⟩;have hd:=bt hd M9;obtain⟨c3,c7,f3,f7⟩:=KC.out _ hd)
 all_goals
  have Oc:=hd;rename_i v1 a1 ac1 Nr M8 OX _ _ _ _;have x3:=(Oc.block w.heap.size (by omega)).trans x1;have x4:=(Oc.block (w.heap.size+1) (by omega)).trans x2;have x5:=ar (j:=7) (v:=.slice a2 vl.length Ve) (ar (j:=3) (v:=.slice a1 fl.length ac1) x3);simp only[cH,cI,cF]at x5;have x6:((v2.setCell ⟨w.heap.size,3,none⟩ (.slice a1 fl.length ac1)).setCell ⟨w.heap.size,7,none⟩ (.slice a2 vl.length Ve)).heap[w.heap.size+1]?=_:=((aG _ _ _ _ _ (by omega)).trans (aG _ _ _ _ _ (by omega))).trans x4;have NN:=Nr.below M9;have M_:=((bt B2.out Oc).setCell (p:=⟨w.heap.size,3,none⟩) (aw _) (.slice a1 fl.length ac1)).setCell (p:=⟨w.heap.size,7,none⟩) (aw _) (.slice a2 vl.length Ve);have q1:∀k,(Value.slice a1 fl.length ac1).ownBlock=some k->W2.heap.size<=k:=λk hk=>(Nr.lt k hk).1
  have q2:∀k,(Value.slice a2 vl.length Ve).ownBlock=some k->W2.heap.size<=k:=λk hk=>bj OX.size (Nz.lt k hk).1
  have UZ:aM w.heap.size (.slice a1 fl.length ac1) fl ((v2.setCell ⟨w.heap.size,3,none⟩ (.slice a1 fl.length ac1)).setCell ⟨w.heap.size,7,none⟩ (.slice a2 vl.length Ve)):=by have h:=NN.base (B':=w.heap.size) B2.out.size;exact bp 7 _ (bp 3 _ h (λx=>by have:=q1 _ x;omega)) (λx=>by have:=q1 _ x;omega)
  have PN:aM w.heap.size (.slice a2 vl.length Ve) vl ((v2.setCell ⟨w.heap.size,3,none⟩ (.slice a1 fl.length ac1)).setCell ⟨w.heap.size,7,none⟩ (.slice a2 vl.length Ve)):=by have h:=Nz.base (B':=w.heap.size) (bj B2.out.size OX.size);exact bp 7 _ (bp 3 _ h (λx=>by have:=q2 _ x;omega)) (λx=>by have:=q2 _ x;omega)
  generalize (v2.setCell ⟨w.heap.size,3,none⟩ (.slice a1 fl.length ac1)).setCell ⟨w.heap.size,7,none⟩ (.slice a2 vl.length Ve)=X at*;have g0:=(ab x5 0).1;have g1:=(ab x5 1).1;have g2:=(ab x5 2).1;have g3:=(ab x5 3).1;have g4:=(ab x5 4).1;have g5:=(ab x5 5).1;have g6:=(ab x5 6).1;have g7:=(ab x5 7).1;have k0:=(ab x6 0).1;have k1:=(ab x6 1).1;have k2:=(ab x6 2).1;have k3:=(ab x6 3).1;have k4:=(ab x6 4).1;have k5:=(ab x6 5).1;have k6:=(ab x6 6).1;have k7:=(ab x6 7).1;have j0:=λj:Nat=>(ab x6 j).2.1
  simp only[cT,cv,cS]at g0 g1 g2 g3 g4 g5 g6 g7 k0 k1 k2 k3 k4 k5 k6 k7;obtain⟨WV,ZZ,Xs⟩:=bu UZ PN M_;have hne1:∀k,(Value.slice a1 fl.length ac1).ownBlock=some k->w.heap.size+1≠k:=λk hk=>by have:=q1 k hk;omega
  have SO:∀k,(Value.slice a2 vl.length Ve).ownBlock=some k->w.heap.size+1≠k:=λk hk=>by have:=q2 k hk;omega
  obtain⟨Ru,RJ⟩:=az hne1 SO;clear UZ PN M_ x3 x4 x5 x6 Nr Nz NN M8 M9 hd OX Oc q1 q2 c3 c7 f3 f7 x1 x2 K1 K2 KC hne1 SO;go_wp2_with fail
  refine bodyPost_ret_by (v:=dI st re mi a1 fl.length ac1 bo asked got a2 vl.length Ve) ?_ rfl ?_
  ·rw[fT rfl];go_simp;rfl
  ·refine⟨a1,ac1,a2,Ve,rfl,?_,?_,?_⟩
   ·exact(bp 7 _ (bp 6 _ (bp 5 _ (bp 4 _ (bp 3 _ (bp 2 _ (bp 1 _ (bp 0 _ WV.out (λx=>Ru.out _ x rfl)) (λx=>Ru.out _ x rfl)) (λx=>Ru.out _ x rfl)) (λx=>Ru.out _ x rfl)) (λx=>Ru.out _ x rfl)) (λx=>Ru.out _ x rfl)) (λx=>Ru.out _ x rfl)) (λx=>Ru.out _ x rfl))
   ·exact(bp 7 _ (bp 6 _ (bp 5 _ (bp 4 _ (bp 3 _ (bp 2 _ (bp 1 _ (bp 0 _ ZZ.out (λx=>RJ.out _ x rfl)) (λx=>RJ.out _ x rfl)) (λx=>RJ.out _ x rfl)) (λx=>RJ.out _ x rfl)) (λx=>RJ.out _ x rfl)) (λx=>RJ.out _ x rfl)) (λx=>RJ.out _ x rfl)) (λx=>RJ.out _ x rfl))
   ·exact((((((((Xs.out.setCell (p:=⟨w.heap.size+1,0,none⟩) (fX _) _).setCell (p:=⟨w.heap.size+1,1,none⟩) (fX _) _).setCell (p:=⟨w.heap.size+1,2,none⟩) (fX _) _).setCell (p:=⟨w.heap.size+1,3,none⟩) (fX _) _).setCell (p:=⟨w.heap.size+1,4,none⟩) (fX _) _).setCell (p:=⟨w.heap.size+1,5,none⟩) (fX _) _).setCell (p:=⟨w.heap.size+1,6,none⟩) (fX _) _).setCell (p:=⟨w.heap.size+1,7,none⟩) (fX _) _)
theorem dj(l:List UInt8):(⟨l.toArray⟩:ByteArray).size=l.length:=by simp[ByteArray.size]
def oN(s:List UInt8):List UInt8:=Lib.itoa (s.length:Int)++32::s
def iz(key:List UInt8)(xs:List aU):List UInt8:=oN key++xs.flatMap λf=>oN f.1++oN f.2
theorem Cu(key:List UInt8)(xs:List aU)(k:Nat)(h:k<xs.length):iz key (xs.take (k+1))=(iz key (xs.take k)++oN xs[k].1)++oN xs[k].2:=by unfold iz;rw[gL h,List.flatMap_append];simp
theorem pd(s:List UInt8)(h:s.length<=1000000000000):(oN s).length<=s.length+22:=by have:=Lib.itoa_length_le (s.length:Int) (by omega) (by omega);unfold oN;rw[bP,cg];omega
theorem vo(key:List UInt8)(xs:List aU)(hk:key.length<=1000000)(hs:aE xs<=1000000):(iz key xs).length<=key.length+22+(aE xs+44*xs.length):=by
 have h1:=pd key (by omega)
 have h2:∀ys:List aU,aE ys<=1000000->(ys.flatMap λf=>oN f.1++oN f.2).length<=aE ys+44*ys.length:=by
  intro ys
  induction ys with
  |nil=>intro _;simp
  |cons f t ih=>
   intro h;have e:aE (f::t)=(f.1.length+f.2.length)+aE t:=by unfold aE;rw[bw,dG]
   have a1:=pd f.1 (by omega);have a2:=pd f.2 (by omega);have:=ih (by omega);rw[jk,bP,bP,cg];omega
 unfold iz;rw[bP];have:=h2 xs hs;omega
theorem xz{w w1:World}(h:Below w.heap.size w w1)(T:TypeId)(b:Option Nat):Lib.OthersKept T b w w1:=λk o hk _ _=>by
 rcases ef k w.heap.size with h'|h'
 ·exact(h.block k h').trans hk
 ·simp[fy h']at hk
theorem rY(B b:Nat)(l:List UInt8)(s:ByteArray)(w:World)(hI:lL B b l w)(hl:l.length+s.size+50<=140737488355328)(hs:s.size<=1000000000)(hB:B<=w.heap.size)(ht:dV w):Calls Tryz.prog 362 #[.string s,.pointer (some ⟨b,0,none⟩)] w λe w'=>e=.returned (.tuple #[])/\lL B b (l++oN s.data.toList) w'/\Below B w w'/\Lib.OthersKept 5 (some b) w w':=by
 have k1:=oR (s.size:Int) (by omega) (by omega) w ht;have Q7:=Lib.itoa_length_le (s.size:Int) (by omega) (by omega);have he:oN s.data.toList=Lib.itoa (s.size:Int)++32::s.data.toList:=by unfold oN;rw[aY]
 rw[he];generalize Lib.itoa (s.size:Int)=it at*;obtain⟨o,rfl⟩:∃o:ByteArray,it=o.data.toList:=⟨⟨it.toArray⟩,rfl⟩;simp only[bN]at k1;have ho:o.size<=21:=by rw[aY];exact Q7
 obtain⟨K1,HI,HE⟩:=bu k1 hI he;clear k1 hI Q7 he ht;have p1:¬(9223372036854775807:Int)<(o.size:Int)+1:=by omega
 have p2:¬(9223372036854775807:Int)<(o.size:Int)+1+(s.size:Int):=by omega
 go_enter Tryz.func362,Tryz.ntmps362
 go_wp2_with fail
 refine K1.out.mono ?_;rintro e w1 ⟨rfl,M8⟩;have k2:=bV B b l (o++gY++s) w1 (HI.out.below M8) (by rw[nV,nV];have:(gY:ByteArray).size=1:=rfl;omega) (by have:=M8.size;omega);have K2:=ah k2;clear k2;go_wp2_with fail
 refine K2.out.mono ?_;rintro e w2 ⟨rfl,O7,M9,Nz⟩;go_wp2;go_end0
 refine⟨rfl,?_,(M8.mono hB).trans M9,Lib.OthersKept.trans (xz M8 _ _) Nz⟩;have e2:(o++gY++s).data.toList=o.data.toList++32::s.data.toList:=by simp
 rw[e2]at O7;exact O7
theorem Bb(key:List UInt8)(A:Option Addr)(n c:Nat)(xs:List aU)(w:World)(hr:Rd A n 2 (aJ xs) w)(hn:n<=1000000)(hs:aE xs<=1000000)(hk:key.length<=1000000)(ht:dV w):Calls Tryz.prog 284 #[.string ⟨key.toArray⟩,.slice A n c] w λe w'=>e=.returned (.string ⟨(iz key xs).toArray⟩)/\Below w.heap.size w w':=by
 obtain rfl:=hr.fld;have Oj:=Cu key xs
 have hlen:∀k,(iz key (xs.take k)).length<=100000000:=by
  intro k;have h1:=vo key (xs.take k) hk (bj (lw xs k) hs);have h2:=lw xs k;have h3:(xs.take k).length<=xs.length:=by rw[dm];omega
  omega
 have hS:=λf(hf:f∈xs)=>bj (bM hf) hs
 have hT:iz key (xs.take xs.length)=iz key xs:=by rw[eM]
 have S9:iz key (xs.take 0)=oN key:=by unfold iz;simp
 have k0:=rY w.heap.size w.heap.size [] ⟨key.toArray⟩ (w.alloc Ab) (tY w) (by rw[dj];simp;omega) (by rw[dj];omega) (by simp) (ht.on ((aO _ w).alloc (aw _) _));simp only[lp]at k0;have N5:=(aO w.heap.size w).alloc (aw _) Ab;obtain⟨HT,To,K0,HR,HS,Su⟩:=eN hT S9 k0 hr hS Oj;obtain⟨HL,HTB⟩:=az hlen ht;clear k0 hr hs Oj hlen hS hT S9 ht;generalize iz key xs=OY at*;go_enter Tryz.func284,Tryz.ntmps284
 go_wp2_with fail
 refine K0.out.mono ?_;rintro e w1 ⟨rfl,NJ,M8,-⟩;have Ni:=N5.trans M8;have PP:=ah NJ;clear N5 M8 NJ K0;go_wp2_with fail
 go_loopw [15] (λi wr=>∃k:Nat,k<=xs.length/\i=.int .i64 k/\Below w.heap.size w wr/\Hid (lL w.heap.size w.heap.size (iz key (xs.take k)) wr)) (λi _=>xs.length-(intOf i).toNat)
 case atStart=>exact⟨0,a_ _,rfl,Ni,by rw[To.out];exact PP⟩
 case round=>
  clear Ni PP To;obtain⟨k,hk,rfl,M_,HB⟩:=hrel;by_cases Nc:k<xs.length
  ·obtain⟨b,o,rfl,hl,c1,c2⟩:=(HR.out.below M_).fld_at (k:=k) Nc;have hf:=HS.out xs[k] (bQ _);have Oj:=Su.out k Nc;generalize xs[k]=f at*;obtain⟨f1,f2⟩:=f;simp only at c1 c2 hf Oj
   have hle:=HL.out k;obtain⟨W,hW⟩:=bg wr (.cells #[.string ⟨f1.toArray⟩,.string ⟨f2.toArray⟩] 70);have bW:=bm hW;have Pm:=M_.trans (bW.mono M_.size);have xW:=dU hW;have k2:=rY w.heap.size w.heap.size _ ⟨f1.toArray⟩ W (HB.out.below bW) (by rw[dj];omega) (by rw[dj];omega) Pm.size (HTB.out.on Pm);obtain⟨K2,Za,HW,XW⟩:=bK k2 Oj hW xW;have e1:=(ab xW 0).1;have e2:=(ab xW 1).1;have z1:=(ab xW 0).2.2;clear Oj k2 hW bW xW;go_wp2_with fail
   rw[HW.out];refine K2.out.mono ?_;rintro e w2 ⟨rfl,O7,M9,Nz⟩;have Nk:=Pm.trans M9
   have hle2:(iz key (xs.take k)++oN f1).length<=100000000+1000022:=by have:=pd f1 (by omega);rw[bP];omega
   have Ng:w.heap.size<wr.heap.size:=HB.out.lt
   have x2:=Nz _ _ XW.out (by intro x;injection x with x;omega) (by
    intro c fz x;injection x with _ x _
    exact absurd x (by decide))
   have e3:=(ab x2 1).1;simp only[cT,cv,cS]at e3;have k3:=rY w.heap.size w.heap.size _ ⟨f2.toArray⟩ w2 O7 (by rw[dj];omega) (by rw[dj];omega) Nk.size (HTB.out.on Nk);have K3:=ah k3;clear k3 O7 M9 Nz x2 e1 e2 K2;go_wp2_with fail
   refine K3.out.mono ?_;rintro e w3 ⟨rfl,Qb,Na,-⟩;have Nu:=Nk.trans Na;have HI3:Hid (lL w.heap.size w.heap.size (iz key (xs.take (k+1))) w3):=by rw[Za.out];exact am Qb
   clear Qb Na K3;go_wp2_with fail
   go_roundw
   case rel=>exact⟨k+1,by omega,by go_num,Nu,HI3⟩
   case measure=>simp[intOf];omega
  ·have NI:k=xs.length:=by omega
   subst NI;have hI:=HB.out;rw[HT.out]at hI;have k5:=Tryz.Builder_String_any_k w.heap.size w.heap.size OY wr hI M_.size;have K5:=ah k5;clear k5 hI;go_wp2_with fail
   refine K5.out.mono ?_;rintro e w5 ⟨rfl,-,Ns,-⟩;go_wp2;go_ret;exact⟨rfl,M_.trans Ns⟩
structure mV(w:World)(e:cw):Prop where
 f:aM 0 (.slice e.x.fA e.x.fn e.x.fc) e.x.fl w
 v:aM 0 (.slice e.x.vA e.x.vn e.x.vc) e.x.vl w
 key:e.key=⟨(iz e.x.key.data.toList e.x.vl).toArray⟩
 kl:e.x.key.size<=1000
 fl:e.x.fl.length<=100/\aE e.x.fl<=10000
 vl:e.x.vl.length<=4000/\aE e.x.vl<=1000000
 num:0<e.x.num
theorem nz{fp:List Nat}{w w':World}{B:Nat}{v:Value}{fs:List aU}(h:aM B v fs w)(ht:aL fp w w')(hk:∀b∈fp,∀cs T z,w.heap[b]?=some (.cells cs T z)->T≠70):aM B v fs w':=by
 refine⟨h.1,?_⟩;rcases h.2 with h2|⟨g,cap,cur,hv,hg,hh,r⟩
 ·exact Or.inl h2
 ·refine Or.inr ⟨g,cap,cur,hv,hg,?_,r⟩
  have Nc:g<w.heap.size:=by
   rcases ef g w.heap.size with h'|h'
   ·exact h'
   ·simp[fy h']at hh
  exact(ht.2.2.2.2 g Nc (λhm=>hk g hm _ _ _ hh rfl)).trans hh
theorem mV.touch{fp:List Nat}{w w':World}{e:cw}(h:mV w e)(ht:aL fp w w')(hk:∀b∈fp,∀cs T z,w.heap[b]?=some (.cells cs T z)->T≠70):mV w' e:=⟨nz h.f ht hk,nz h.v ht hk,h.key,h.kl,h.fl,h.vl,h.num⟩
theorem mV.below{w w':World}{e:cw}(h:mV w e)(hb:Below w.heap.size w w'):mV w' e:=⟨h.f.below hb,h.v.below hb,h.key,h.kl,h.fl,h.vl,h.num⟩
structure fm(w:World)(sb:Nat)(fp:List Nat)(bl:Nat)(n m:Int)(es:List cw)(put:Int):Prop where
 blk:w.heap[sb]?=some (.cells #[ptr bl,.int .i64 put] 116 (0,0))
 bud:qP w fp bl n m es
 sep:sb ∉ fp
 good:∀e∈es,mV w e/\e.x.num<=put
def ld(w w':World)(sb:Nat)(fp:List Nat)(bl:Nat)(n m:Int)(es:List cw)(put:Int):Prop:=∃fp',fm w' sb fp' bl n m es put/\aL (sb::fp) w w'/\∀b∈fp',b∈fp\/w.heap.size<=b
theorem fm.lt{w:World}{sb:Nat}{fp:List Nat}{bl:Nat}{n m:Int}{es:List cw}{put:Int}(h:fm w sb fp bl n m es put):sb<w.heap.size:=(ab h.blk 0).2.2
theorem fm.low{w:World}{sb:Nat}{fp:List Nat}{bl:Nat}{n m:Int}{es:List cw}{put:Int}(h:fm w sb fp bl n m es put):∀b∈sb::fp,b<w.heap.size:=by
 intro b hb;rcases cZ.1 hb with rfl|hb
 ·exact h.lt
 ·exact h.bud.low b hb
theorem fm.below{w w':World}{sb:Nat}{fp:List Nat}{bl:Nat}{n m:Int}{es:List cw}{put:Int}(h:fm w sb fp bl n m es put)(hb:Below w.heap.size w w'):fm w' sb fp bl n m es put:=⟨(hb.block sb h.lt).trans h.blk,h.bud.below hb,h.sep,λe he=>⟨(h.good e he).1.below hb,(h.good e he).2⟩⟩
theorem fm.kind{w:World}{sb:Nat}{fp:List Nat}{bl:Nat}{n m:Int}{es:List cw}{put:Int}(h:fm w sb fp bl n m es put):∀b∈sb::fp,∀cs T z,w.heap[b]?=some (.cells cs T z)->T≠70:=by
 intro b hb cs T z hc;rcases cZ.1 hb with rfl|hb
 ·rw[h.blk]at hc;injection hc with hc
  injection hc with _ hc _
  rw[<-hc];decide
 ·rcases h.bud.kind b hb cs T z hc with e|e<;>rw[e]<;>decide
theorem fm.turn{w w':World}{sb:Nat}{fp:List Nat}{bl:Nat}{n m:Int}{es NE:List cw}{put:Int}(h:fm w sb fp bl n m es put)(hs:MK w w' fp bl n m NE)(OD:∀e∈NE,mV w' e/\e.x.num<=put):ld w w' sb fp bl n m NE put:=by
 obtain⟨fp',hb,ht,hf⟩:=hs;refine⟨fp',⟨(ht.2.2.2.2 sb h.lt h.sep).trans h.blk,hb,λhm=>?_,OD⟩,ht.mono (λb hb=>Or.inl (bJ _ hb)),hf⟩;rcases hf sb hm with h'|h'
 ·exact h.sep h'
 ·have:=h.lt;omega
theorem fm.goodsub{w w':World}{sb:Nat}{fp Uw:List Nat}{bl:Nat}{n m:Int}{es NE:List cw}{put:Int}(h:fm w sb fp bl n m es put)(ht:aL Uw w w')(TT:∀b∈Uw,b∈sb::fp)(OD:∀e∈NE,e∈es):∀e∈NE,mV w' e/\e.x.num<=put:=λe he=>⟨(h.good e (OD e he)).1.touch ht (λb hb=>h.kind b (TT b hb)),(h.good e (OD e he)).2⟩
theorem ld.trans{w w1 w2:World}{sb:Nat}{fp fp1:List Nat}{bl:Nat}{n m:Int}{es:List cw}{put:Int}(h:aL (sb::fp) w w1)(hf:∀b∈fp1,b∈fp\/w.heap.size<=b)(h2:ld w1 w2 sb fp1 bl n m es put):ld w w2 sb fp bl n m es put:=by
 obtain⟨Uw,ha,ht,hg⟩:=h2;refine⟨Uw,ha,h.trans ht (λb hb=>?_),λb hb=>?_⟩
 ·rcases cZ.1 hb with rfl|hb
  ·exact Or.inl fD
  ·exact(hf b hb).imp (bJ _) id
 ·rcases hg b hb with h'|h'
  ·exact hf b h'
  ·exact Or.inr (bj h.2.2.2.1 h')
theorem rO{w:World}{sb:Nat}{fp:List Nat}{bl:Nat}{n m:Int}{es:List cw}{put:Int}(h:fm w sb fp bl n m es put):Calls Tryz.prog 183 #[.pointer (some ⟨sb,0,none⟩)] w λe w'=>e=.returned (.bool true)/\w=w':=by
 have c0:=(ab h.blk 0).1;simp only[cT,cS]at c0;unfold ptr at c0;clear h;go_enter Tryz.func183,Tryz.ntmps183
 go_wp2;go_ret;exact⟨rfl,rfl⟩
theorem G7{p q:List cw}{e:cw}(h:((p++e::q).map (·.key)).Nodup):ly e.key (p++e::q)=some e:=by
 unfold ly;rw[List.find?_append]
 have hp:p.find? (uZ e.key)=none:=by rw[mM];intro x hx hk;have hk:=lh.1 hk;rw[cO,bw,List.nodup_append]at h;exact h.2.2 x.key (eY.2 ⟨x,hx,rfl⟩) e.key (by simp) hk
 rw[hp,List.find?_cons,lh.2 rfl];rfl
theorem JQ{es:List cw}(Oi:(es.map (·.key)).Nodup){k:Nat}(hk:k<es.length):ly es[k].key es=some es[k]:=by have h:=List.take_append_drop k es;rw[tu hk]at h;have h2:=G7 (p:=es.take k) (q:=es.drop (k+1)) (e:=es[k]) (by rw[h];exact Oi);rw[h]at h2;exact h2
def kB(key:List UInt8)(vl:List aU):ByteArray:=⟨(iz key vl).toArray⟩
theorem Cc(key:List UInt8)(vl:List aU)(hk:key.length<=1000)(hv:vl.length<=4000)(hs:aE vl<=1000000):(kB key vl).size<=200000000:=by have:=vo key vl (by omega) (by omega);unfold kB;rw[dj];omega
theorem Eb{k:Nat}(h:k<=200000000):k<=maxLen:=by unfold maxLen;omega
theorem DK(n m:Int):∀(es:List cw),(uA n m es).2.Sublist es
 | []=>List.Sublist.refl _
 |e::t=>by
  rw[uA];split
  ·exact(DK n m t).trans (List.sublist_cons_self _ _)
  ·exact List.Sublist.refl _
theorem Ga{n m:Int}{k:ByteArray}{s:Int}{x:Hv}{es:List cw}{e:cw}(h:e∈(iG n m k s x es).2):e∈es\/e=⟨k,max 0 s,x⟩:=by
 unfold iG at h;split at h
 ·exact Or.inl (lD.1 h).1
 ·rcases eB.1 ((DK _ _ _).subset h)with h|h
  ·exact Or.inl (lD.1 h).1
  ·exact Or.inr (cA.1 h)
theorem ld.then{w w1 w2:World}{sb:Nat}{fp:List Nat}{bl:Nat}{n m:Int}{es:List cw}{put:Int}(h:ld w w1 sb fp bl n m es put)(hb:Below w1.heap.size w1 w2):ld w w2 sb fp bl n m es put:=by obtain⟨fp',ha,ht,hf⟩:=h;exact⟨fp',ha.below hb,ht.trans (aL.of_below hb (aL.refl [] _)) (λb hb=>by cases hb),hf⟩
theorem fm.inc{w:World}{sb:Nat}{fp:List Nat}{bl:Nat}{n m:Int}{es:List cw}{put put':Int}(h:fm w sb fp bl n m es put)(hp:put<=put'):fm (w.setCell ⟨sb,1,none⟩ (.int .i64 put')) sb fp bl n m es put'/\aL (sb::fp) w (w.setCell ⟨sb,1,none⟩ (.int .i64 put')):=by have ht:aL [sb] w (w.setCell ⟨sb,1,none⟩ (.int .i64 put')):=(aL.refl _ _).setCell sb 1 _ (by simp);refine⟨⟨?_,h.bud.keep ht (λb hb x=>h.sep (by rw[<-cA.1 x];exact hb)),h.sep,λe he=>⟨(h.good e he).1.touch ht (λb hb=>h.kind b (by rw[cA.1 hb];exact fD)),by have:=(h.good e he).2;omega⟩⟩,(aL.refl _ _).setCell sb 1 _ fD⟩;have:=h.blk;simp[World.setCell,fJ,this]
theorem E6{w:World}{sb:Nat}{fp:List Nat}{bl:Nat}{nn mm:Int}{es:List cw}{put:Int}(h:fm w sb fp bl nn mm es put)(key:List UInt8)(st mi asked got:Int)(re bo:ByteArray)(A V:Option Addr)(n c m d:Nat)(fl vl:List aU)(hr:∀W,aL (sb::fp) w W->Rd A n 2 (aJ fl) W)(hq:∀W,aL (sb::fp) w W->Rd V m 2 (aJ vl) W)(hk:key.length<=1000)(hn:fl.length<=100)(hm:vl.length<=4000)(hs:aE fl<=10000)(QW:aE vl<=1000000)(PC:re.size<=1000000)(O9:bo.size<=1000000)(hp:0<=put/\put<=1000)(ht:∀W,aL (sb::fp) w W->dV W):Calls Tryz.prog 231 #[.pointer (some ⟨sb,0,none⟩),.string ⟨key.toArray⟩,dI st re mi A n c bo asked got V m d] w λe w'=>∃a ac v vc,e=.returned (.bool (py (kB key vl) (iG nn mm (kB key vl) (nZ ⟨key.toArray⟩ re bo fl vl) ⟨⟨key.toArray⟩,st,re,mi,a,fl.length,ac,bo,asked,got,v,vl.length,vc,put+1,fl,vl⟩ es).2))/\ld w w' sb fp bl nn mm (iG nn mm (kB key vl) (nZ ⟨key.toArray⟩ re bo fl vl) ⟨⟨key.toArray⟩,st,re,mi,a,fl.length,ac,bo,asked,got,v,vl.length,vc,put+1,fl,vl⟩ es).2 (put+1):=by
 have Vr:=Eb (Cc key vl hk hm QW);unfold dI;obtain⟨W1,Ne⟩:=bg w (.cells #[.int .i64 st,.string re,.int .i64 mi,.slice A n c,.string bo,.int .i64 asked,.int .i64 got,.slice V m d] 105);have b1:=bm Ne;have x1:=dU Ne;have z1:w.heap.size<W1.heap.size:=by rw[<-Ne];simp
 have hl:=h.lt;have h1:=h.below b1;obtain⟨h2,t2⟩:=h1.inc (put':=put+1) (by omega);obtain⟨W2,Nw⟩:=aH (W1.setCell ⟨sb,1,none⟩ (.int .i64 (put+1)));rw[Nw]at h2 t2;have t02:aL (sb::fp) w W2:=aL.of_below b1 t2;have z2:w.heap.size<W2.heap.size:=bE z1 t2.2.2.2.1;have x2:W2.heap[w.heap.size]?=some (.cells #[.int .i64 st,.string re,.int .i64 mi,.slice A n c,.string bo,.int .i64 asked,.int .i64 got,.slice V m d] 105 (0,0)):=(t2.2.2.2.2 _ z1 (λhm=>by have:=h.low _ hm;omega)).trans x1
 have kc:∀w',Below W2.heap.size W2 w'->w'.cell? ⟨sb,0,none⟩=some (.pointer (some ⟨bl,0,none⟩))/\w'.cell? ⟨sb,1,none⟩=some (.int .i64 (put+1))/\w'.cell? ⟨w.heap.size,0,none⟩=some (.int .i64 st)/\w'.cell? ⟨w.heap.size,1,none⟩=some (.string re)/\w'.cell? ⟨w.heap.size,2,none⟩=some (.int .i64 mi)/\w'.cell? ⟨w.heap.size,3,none⟩=some (.slice A n c)/\w'.cell? ⟨w.heap.size,4,none⟩=some (.string bo)/\w'.cell? ⟨w.heap.size,5,none⟩=some (.int .i64 asked)/\w'.cell? ⟨w.heap.size,6,none⟩=some (.int .i64 got)/\w'.cell? ⟨w.heap.size,7,none⟩=some (.slice V m d):=λw' hb=>by have x4:=(hb.block w.heap.size z2).trans x2;have x5:=(hb.block sb h2.lt).trans h2.blk;exact⟨(ab x5 0).1,(ab x5 1).1,(ab x4 0).1,(ab x4 1).1,(ab x4 2).1,(ab x4 3).1,(ab x4 4).1,(ab x4 5).1,(ab x4 6).1,(ab x4 7).1⟩
 have tk:∀W,Below W2.heap.size W2 W->aL (sb::fp) w W:=λW hb=>t02.trans (aL.of_below hb (aL.refl (sb::fp) _)) (λb hb=>Or.inl hb)
 have ki:=rO h1;have kn:=λW(hb:Below W2.heap.size W2 W)=>Bb key V m d vl W (hq W (tk W hb)) (by have:=(hq W (tk W hb)).fld;omega) (by omega) (by omega) (ht W (tk W hb))
 have ks:=λW(hb:Below W2.heap.size W2 W)=>Co ⟨key.toArray⟩ st mi asked got re bo A V n c m d fl vl W (hr W (tk W hb)) (hq W (tk W hb)) (by have:=(hr W (tk W hb)).fld;omega) (by have:=(hq W (tk W hb)).fld;omega) (by omega) (by omega) (by rw[dj];omega) (by omega) (by omega)
 have kl:=λW(hb:Below W2.heap.size W2 W)=>wv st mi asked got re bo A V n c m d fl vl W (hr W (tk W hb)) (hq W (tk W hb)) (by have:=(hr W (tk W hb)).fld;omega) (by have:=(hq W (tk W hb)).fld;omega)
 have kp:∀W(a:Option Addr)(ac:Nat)(v:Option Addr)(vc:Nat),Below W2.heap.size W2 W->_:=λW a ac v vc hb=>L8 (h2.bud.below hb) (kB key vl) Vr (nZ ⟨key.toArray⟩ re bo fl vl) ⟨⟨key.toArray⟩,st,re,mi,a,fl.length,ac,bo,asked,got,v,vl.length,vc,put+1,fl,vl⟩
 have kpk:=λW fp' NE(hb:qP W fp' bl nn mm NE)=>DD hb (kB key vl) Vr
 have kf:∀W w'(a:Option Addr)(ac:Nat)(v:Option Addr)(vc:Nat)(fp':List Nat),Below W2.heap.size W2 W->aM 0 (.slice a fl.length ac) fl W->aM 0 (.slice v vl.length vc) vl W->qP w' fp' bl nn mm (iG nn mm (kB key vl) (nZ ⟨key.toArray⟩ re bo fl vl) ⟨⟨key.toArray⟩,st,re,mi,a,fl.length,ac,bo,asked,got,v,vl.length,vc,put+1,fl,vl⟩ es).2->aL fp W w'->(∀b∈fp',b∈fp\/W.heap.size<=b) ->
   (w'.cell? ⟨sb,0,none⟩=some (.pointer (some ⟨bl,0,none⟩))/\w'.cell? ⟨sb,1,none⟩=some (.int .i64 (put+1))/\w'.cell? ⟨w.heap.size,0,none⟩=some (.int .i64 st)/\w'.cell? ⟨w.heap.size,1,none⟩=some (.string re)/\w'.cell? ⟨w.heap.size,2,none⟩=some (.int .i64 mi)/\w'.cell? ⟨w.heap.size,3,none⟩=some (.slice A n c)/\w'.cell? ⟨w.heap.size,4,none⟩=some (.string bo)/\w'.cell? ⟨w.heap.size,5,none⟩=some (.int .i64 asked)/\w'.cell? ⟨w.heap.size,6,none⟩=some (.int .i64 got)/\w'.cell? ⟨w.heap.size,7,none⟩=some (.slice V m d))/\ld w w' sb fp bl nn mm (iG nn mm (kB key vl) (nZ ⟨key.toArray⟩ re bo fl vl) ⟨⟨key.toArray⟩,st,re,mi,a,fl.length,ac,bo,asked,got,v,vl.length,vc,put+1,fl,vl⟩ es).2 (put+1):=λW w' a ac v vc fp' hb UZ PN hbq RO hff=>by
  have hW:=h2.below hb;have hkd:∀b∈fp,∀cs T z,W.heap[b]?=some (.cells cs T z)->T≠70:=λb hb=>hW.kind b (bJ _ hb)
  have NA:∀e∈(iG nn mm (kB key vl) (nZ ⟨key.toArray⟩ re bo fl vl) ⟨⟨key.toArray⟩,st,re,mi,a,fl.length,ac,bo,asked,got,v,vl.length,vc,put+1,fl,vl⟩ es).2,mV w' e/\e.x.num<=put+1:=λe he=>by
   rcases Ga he with he|rfl
   ·exact⟨(hW.good e he).1.touch RO hkd,(hW.good e he).2⟩
   ·exact⟨⟨nz UZ RO hkd,nz PN RO hkd,rfl,by rw[dj];exact hk,⟨hn,hs⟩,⟨hm,QW⟩,by show 0<put+1;omega⟩,iR _⟩
  have R0:=hW.turn ⟨fp',hbq,RO,hff⟩ NA;have x4:=(hb.block w.heap.size z2).trans x2;have x5:=(RO.2.2.2.2 w.heap.size (ab x4 0).2.2 (λhm=>by have:=h.low _ (bJ _ hm);omega)).trans x4;have x6:=(RO.2.2.2.2 sb hW.lt hW.sep).trans hW.blk;exact⟨⟨(ab x6 0).1,(ab x6 1).1,(ab x5 0).1,(ab x5 1).1,(ab x5 2).1,(ab x5 3).1,(ab x5 4).1,(ab x5 5).1,(ab x5 6).1,(ab x5 7).1⟩,ld.trans (tk W hb) (λb hb=>Or.inl hb) R0⟩
 have y0:=(ab h1.blk 0).1;have y1:=(ab h1.blk 1).1;have y2:=(ab h1.blk 1).2.1;simp only[cT,cv,cS]at y0 y1 y2;have a1:IntKind.i64.wrap (put+1)=put+1:=by rw[b_];omega
 unfold dI at ks kl;unfold Hv.val at kpk;obtain⟨NC,Of,KC,KI,KN,KS⟩:=eN Ne Nw kc ki kn ks;obtain⟨KL,KPK,KF⟩:=bu kl kpk kf;unfold Hv.val at kp;simp only at kp
 have KP:=ah kp;clear Ne Nw b1 x1 z1 kc ki kn ks kl kp kf h hq hr ht Vr hl h1 h2 t2 t02 z2 x2 tk kpk;unfold kB ptr at*;go_enter Tryz.func231,Tryz.ntmps231
 go_upto_region 1 with(fail)
 rw[NC.out];go_wp2_with fail
 refine KI.out.mono ?_;rintro e w1 ⟨rfl,rfl⟩;go_upto_region 4 with(fail)
 rw[Of.out];have Oc:Below W2.heap.size W2 W2:=aO _ _;clear y0 y1 y2 NC Of KI;obtain⟨y0,y1,g0,g1,g2,g3,g4,g5,g6,g7⟩:=KC.out _ Oc;go_wp2_with fail
 refine(KN.out _ Oc).mono ?_;rintro e w3 ⟨rfl,Rh⟩;have hd4:Below W2.heap.size W2 w3.drew:=(bt Oc Rh).drew;clear Oc Rh KN y0 y1 g0 g1 g2 g3 g4 g5 g6 g7;go_upto_region 5 with(fail)
 refine BW KC.out hd4 λM7=>?_
 refine aX 0 1 2 3 M7 ?_;refine aX 4 5 6 8 M7 ?_;refine aX 9 11 12 13 M7 ?_;refine fM 14 M7 ?_;refine cL 7 λK hK=>?_
 go_simp;refine(KS.out _ hd4).mono ?_;rintro e v5 ⟨rfl,hv5⟩;have hd5:=bt hd4 hv5;go_wp2_with fail
 refine hK.out _ _ (KC.out _ hd5) (λM7=>?_);clear hK K
 try simp only[Act.put,go,gk,gn]
 refine cL 10 λK hK=>?_
 go_simp;refine(KL.out _ hd5).mono ?_;rintro e v6 ⟨a,ac,v,vc,rfl,UZ,PN,hv6⟩;have hd6:=bt hd5 hv6;unfold dI;go_wp2_with fail
 refine hK.out _ _ (KC.out _ hd6) (λM7=>?_);clear hK K;refine fM 15 M7 ?_;refine cL 16 λK hK=>?_
 go_simp;refine(KP.out _ a ac v vc hd6).mono ?_;rintro e v7 ⟨ra,rc,fp7,rfl,-,hq7,ht7,hf7,-⟩;have kf:=KF.out _ _ a ac v vc fp7 hd6 (UZ.base (a_ _)) (PN.base (a_ _)) hq7 ht7 hf7;go_wp2_with fail
 refine hK.out _ _ kf.1 (λM7=>?_);clear hK K
 try simp only[Act.put,go,gk,gn]
 refine wpAnyH_done (by kernel_rfl) ?_ _;clear M7;obtain⟨⟨y0,y1,g0,g1,g2,g3,g4,g5,g6,g7⟩,R0⟩:=kf;have k8:=KPK.out _ _ _ hq7;obtain⟨K8,HTO⟩:=az k8 R0;clear k8 R0 KPK KF KP KL KS KC UZ PN hq7 ht7 hf7 y1 g0 g1 g2 g3 g4 g5 g6 g7 hd4 hd5 hd6 hv5 hv6;go_wp2_with fail
 refine K8.out.mono ?_;rintro e v8 ⟨rfl,hv8⟩;go_wp2;go_ret;exact⟨a,ac,v,vc,rfl,HTO.out.then (hv8.alloc hv8.size _)⟩
def Lr:Option cw->Hv
 |none=>uw.x
 |some e=>e.x
def yO(kk:List UInt8)(xs:List aU)(b:Option cw)(e:cw):Option cw:=if(e.x.key.data.toList==kk)&&(decide ((Lr b).num<e.x.num)&&gh e.x.vl xs)then some e else b
def gK(kk:List UInt8)(xs:List aU)(es:List cw):Option cw:=es.foldl (yO kk xs) none
theorem BY(kk:List UInt8)(xs:List aU)(es:List cw)(k:Nat)(h:k<es.length):gK kk xs (es.take (k+1))=yO kk xs (gK kk xs (es.take k)) es[k]:=by unfold gK;rw[gL h,List.foldl_append];rfl
theorem Fk(kk:List UInt8)(xs:List aU)(es:List cw){b:cw}(h:gK kk xs es=some b):b∈es/\b.x.key.data.toList=kk/\gh b.x.vl xs=true:=by
 have:∀(l:List cw)(b0:Option cw),l.foldl (yO kk xs) b0=some b->b0=some b\/(b∈l/\b.x.key.data.toList=kk/\gh b.x.vl xs=true):=by
  intro l
  induction l with
  |nil=>intro b0 h;exact Or.inl h
  |cons e t ih=>
   intro b0 h;rcases ih _ h with h2|h2
   ·unfold yO at h2;split at h2
    ·rename_i hc;injection h2 with h2
     subst h2;simp only[eA,beq_iff_eq]at hc;exact Or.inr ⟨fD,hc.1,hc.2.2⟩
    ·exact Or.inl h2
   ·exact Or.inr ⟨bJ _ h2.1,h2.2⟩
 rcases this es none h with h|h
 ·cases h
 ·exact h
theorem fm.keep{w w':World}{sb:Nat}{fp Uw:List Nat}{bl:Nat}{n m:Int}{es:List cw}{put:Int}(h:fm w sb fp bl n m es put)(ht:aL Uw w w')(hs:∀b∈sb::fp,b ∉ Uw)(hk:∀b∈Uw,∀cs T z,w.heap[b]?=some (.cells cs T z)->T≠70):fm w' sb fp bl n m es put:=⟨(ht.2.2.2.2 sb h.lt (hs sb fD)).trans h.blk,h.bud.keep ht (λb hb=>hs b (bJ _ hb)),h.sep,λe he=>⟨(h.good e he).1.touch ht hk,(h.good e he).2⟩⟩
theorem aL.inTen{w w':World}{g:Nat}(h:aL [g] w w')(v0 v1 v2 v3 v4 v5 v6 v7 v8 v9:Value):aL [g] w (Go.Proofs.YtdbjnlkbhhebbaaGreatDoor.setTen w' g v0 v1 v2 v3 v4 v5 v6 v7 v8 v9):=by have h1:=ie (aO g w') (aw g) v0 v1 v2 v3 v4 v5 v6 v7 v8 v9;exact⟨h1.os.trans h.1,h1.tape.trans h.2.1,h1.output.trans h.2.2.1,bj h.2.2.2.1 h1.size,λb hb hn=>(lY (λx=>hn (by rw[x];simp)) _ _ _ _ _ _ _ _ _ _).trans (h.2.2.2.2 b hb hn)⟩
theorem ld.side{w0 w w':World}{sb:Nat}{fp:List Nat}{bl:Nat}{n m:Int}{es:List cw}{put:Int}(h:ld w0 w sb fp bl n m es put)(NV:∀b∈sb::fp,b<w0.heap.size){g:Nat}{cs:Array Value}(hg:w0.heap.size<=g)(hx:w.heap[g]?=some (.cells cs 105 (0,0)))(ht:aL [g] w w'):ld w0 w' sb fp bl n m es put:=by
 obtain⟨fp',ha,ht0,hf⟩:=h;refine⟨fp',ha.keep ht (λb hb hm=>?_) (λb hb cs T z hc=>?_),ht0.trans ht (λb hb=>Or.inr (by rw[cA.1 hb];exact hg)),hf⟩
 ·have hm:=cA.1 hm;subst hm;rcases cZ.1 hb with rfl|hb
  ·have:=NV _ fD;omega
  ·rcases ha.bud.kind _ hb _ _ _ hx with e|e<;>exact absurd e (by decide)
 ·rw[cA.1 hb,hx]at hc;injection hc with hc
  injection hc with _ hc _
  rw[<-hc];decide
theorem IA{k:ByteArray}{es:List cw}{e:cw}(h:e∈zt k es):e∈es:=by
 unfold zt at h;split at h
 ·exact h
 ·rename_i x hx;rcases eB.1 h with h|h
  ·exact(lD.1 h).1
  ·rw[cA.1 h];exact List.mem_of_find?_eq_some hx
def sA(w:World)(sb:Nat)(fp:List Nat)(bl:Nat)(nn mm:Int)(es:List cw)(put:Int)(bo:Option cw)(e:Ending)(w':World):Prop:=
 match bo with
 |none=>e=.returned (.tuple #[dI 0 ⟨#[]⟩ 0 none 0 0 ⟨#[]⟩ 0 0 none 0 0,.bool false])/\ld w w' sb fp bl nn mm es put
 |some b=>∃a ac v vc,e=.returned (.tuple #[dI b.x.st b.x.re b.x.mi a b.x.fl.length ac b.x.bo b.x.asked b.x.got v b.x.vl.length vc,.bool true])/\aM w.heap.size (.slice a b.x.fl.length ac) b.x.fl w'/\aM w.heap.size (.slice v b.x.vl.length vc) b.x.vl w'/\ld w w' sb fp bl nn mm (zt b.key es) put
theorem zQ{w:World}{sb:Nat}{fp:List Nat}{bl:Nat}{nn mm:Int}{es:List cw}{put:Int}(h:fm w sb fp bl nn mm es put)(kk:List UInt8)(A:Option Addr)(n c:Nat)(xs:List aU)(hr:Rd A n 2 (aJ xs) w)(hn:n<=100)(hs:∀f∈xs,f.1.length<=2000000/\f.2.length<=2000000)(hk:kk.length<=1000)(ht:∀W,Below w.heap.size w W->dV W):Calls Tryz.prog 219 #[.pointer (some ⟨sb,0,none⟩),.string ⟨kk.toArray⟩,.slice A n c] w (sA w sb fp bl nn mm es put (gK kk xs es)):=by
 have hl:=h.lt;have NV:=h.low;have hlen:es.length<=4096:=by have:=h.bud.ends;omega
 obtain⟨W1,Ne⟩:=bg w Mr;obtain⟨W2,Nw⟩:=bg W1 IZ;have b1:=bm Ne;have z1:W1.heap.size=w.heap.size+1:=by rw[<-Ne];simp
 have b2:Below w.heap.size w W2:=by rw[<-Nw];exact b1.alloc b1.size _
 have z2:W2.heap.size=w.heap.size+2:=by rw[<-Nw];simp[z1]
 have x1:W2.heap[w.heap.size]?=some (.cells #[.int .i64 0,.string ⟨#[]⟩,.int .i64 0,.slice none 0 0,.string ⟨#[]⟩,.int .i64 0,.int .i64 0,.slice none 0 0] 105 (0,0)):=by have ZU:=bm Nw;rw[ZU.block _ (by omega),<-Ne];exact ay w _ _ rfl
 have x2:eb W2 (w.heap.size+1) 114 uw.x:=by unfold eb;rw[<-Nw,<-z1];exact ay W1 _ _ rfl
 have h1:=h.below b1;have h2:=h.below b2;have ki:=rO h1;have kk2:=Dh h2.bud;have y0:=(ab h2.blk 0).1;simp only[cT,cS]at y0;obtain⟨HH,HR,NC,Of,KI,KK⟩:=eN h2 hr Ne Nw ki kk2;obtain⟨X1,X2,B2,RV,HTB,HS⟩:=eN x1 x2 b2 NV ht hs;clear h h1 h2 hr ki kk2 x1 x2 b1 b2 Ne Nw NV ht hs;unfold ptr at*;go_enter Tryz.func219,Tryz.ntmps219
 go_upto_region 1 with(fail)
 rw[NC.out];go_wp2_with fail
 refine KI.out.mono ?_;rintro e w1 ⟨rfl,rfl⟩;go_upto_region 4 with(fail)
 rw[Of.out];go_wp2_with fail
 refine KK.out.mono ?_;rintro e w3 ⟨ka,kc,rfl,hO,Na⟩;have PS:(fu (es.map (·.key))).length=es.length:=by unfold fu;simp
 have HKL:=ah PS;rw[PS]at hO ⊢;clear PS KI KK NC Of y0;have h3:=HH.out.below Na;have x3:=X2.out.below Na;have x13:=(Na.block w.heap.size (by omega)).trans X1.out;have z3:=Na.size;obtain⟨H3,X3,X13,HO⟩:=bK h3 x3 x13 hO;have Ng:∀b∈sb::fp,b ∉ [w.heap.size+1]:=λb hb hm=>by have:=RV.out b hb;have:=cA.1 hm;omega
 have hkd:∀b∈[w.heap.size+1],∀cs T z,w3.heap[b]?=some (.cells cs T z)->T≠70:=λb hb cs T z hc=>by
  have hb:=cA.1 hb;subst hb;have:=x3;unfold eb at this;rw[this]at hc;injection hc with hc
  injection hc with _ hc _
  rw[<-hc];decide
 have Yr:∀W,aL [w.heap.size+1] w3 W->fm W sb fp bl nn mm es put:=λW ht=>h3.keep ht Ng hkd
 have kpk:∀(k:Nat)(hk:k<es.length)(W:World),aL [w.heap.size+1] w3 W->_:=λk hk W ht=>DD (Yr W ht).bud es[k].key ((Yr W ht).bud.sz _ (bQ hk)).2
 have kfk:=λ(k:Nat)(hk:k<es.length)=>JQ h3.bud.nd hk
 have kro:∀W,aL [w.heap.size+1] w3 W->Rd ka es.length 1 (aF (fu (es.map (·.key)))) W:=λW ht=>by have:=(hO.touch ht (λb hb=>Or.inl (by have:=cA.1 hb;omega))).rd.2;rw[HKL.out]at this;exact this
 have kbw:∀W,aL [w.heap.size+1] w3 W->Below w.heap.size w W:=λW ht=>(bt B2.out Na).trans (ht.below (λb hb=>by have:=cA.1 hb;omega) (by omega))
 have kmt:∀(k:Nat) (hk:k<es.length) (W:World),aL [w.heap.size+1] w3 W->_:=fun k hk W ht=>wD es[k].x.st es[k].x.re es[k].x.mi es[k].x.fA es[k].x.fn es[k].x.fc es[k].x.bo es[k].x.asked es[k].x.got es[k].x.vA es[k].x.vn es[k].x.vc es[k].x.vl A n c xs W (by
  have hg:=((Yr W ht).good _ (bQ hk)).1.v;obtain⟨e1,e2⟩:=hg.rd;rw[e1];exact e2) (by have hg:=((Yr W ht).good _ (bQ hk)).1;have:=hg.v.rd.1;have:=hg.vl.1;omega) (λf hf=>by have hg:=((Yr W ht).good _ (bQ hk)).1.vl.2;have:=bM hf;omega) (HR.out.below (kbw W ht)) (by omega) (λf hf=>by have:=HS.out f hf;omega)
 have Oj:=BY kk xs es;have P7:gK kk xs (es.take es.length)=gK kk xs es:=by rw[eM]
 have Ol:gK kk xs (es.take 0)=none:=rfl;have y3:=(ab h3.blk 0).1;have l3:=h3.lt;simp only[cT,cS]at y3;obtain⟨KST,KPK,KFK,KRO,KBW,KMT⟩:=eN Yr kpk kfk kro kbw kmt;obtain⟨Su,HFULL,Ou⟩:=bu Oj P7 Ol;clear Yr kpk kfk kro kbw kmt Oj P7 Ol hO h3 x3 x13 Ng hkd Na;generalize Nx:gK kk xs es=bst at*;unfold ptr at*;go_wp2_with fail
 go_loopw [25,9] (λi fo wr=>∃k:Nat,k<=es.length/\i=.int .i64 k/\fo=.bool (gK kk xs (es.take k)).isSome/\aL [w.heap.size+1] w3 wr/\Hid (eb wr (w.heap.size+1) 114 (Lr (gK kk xs (es.take k))))) (λi _ _=>es.length-(intOf i).toNat)
 case atStart=>exact⟨0,a_ _,rfl,by rw[Ou.out];rfl,aL.refl _ _,by rw[Ou.out];exact X3⟩
 case round=>
  obtain⟨k,hkk,rfl,rfl,T4,T5⟩:=hrel;by_cases Nc:k<es.length
  ·obtain⟨b,o,rfl,Vq,e1⟩:=(KRO.out wr T4).str_at (k:=k) (by rw[HKL.out];exact Nc);have Nd:(fu (es.map (·.key)))[k]'(by rw[HKL.out];exact Nc)=es[k].key.data.toList:=by unfold fu;simp
   rw[Nd,bN]at e1;have y4:wr.cell? ⟨sb,0,none⟩=some (.pointer (some ⟨bl,0,none⟩)):=(World.cell?_of_block (a:=⟨sb,0,none⟩) (T4.2.2.2.2 sb l3 (λhm=>by have:=cA.1 hm;omega))).trans y3;have kp:=KPK.out k Nc wr T4;unfold Iu py at kp;rw[KFK.out k Nc]at kp;have km:=KMT.out k Nc;have QW:=Su.out k Nc;unfold yO at QW;obtain⟨y,hy⟩:∃y:List UInt8,es[k].x.key=⟨y.toArray⟩:=⟨es[k].x.key.data.toList,(ng es[k].x.key).symm⟩;have RH:es[k].x.key.data.toList=y:=by rw[hy]
   rw[RH]at QW;generalize es[k]=ex at*;unfold Hv.val at kp;rw[hy]at kp;unfold dI at km;obtain⟨KPx,KM,QL⟩:=bu kp km QW;clear kp km QW Nd;generalize Ol:gK kk xs (es.take k)=b0 at*;have Ou:=ah Ol;clear Ol;go_wp2_with fail
   refine KPx.out.mono ?_;rintro e w5 ⟨rfl,Ns⟩;obtain⟨W6,N0⟩:=bg w5 (.cells #[.string ⟨y.toArray⟩,.int .i64 ex.x.st,.string ex.x.re,.int .i64 ex.x.mi,.slice ex.x.fA ex.x.fn ex.x.fc,.string ex.x.bo,.int .i64 ex.x.asked,.int .i64 ex.x.got,.slice ex.x.vA ex.x.vn ex.x.vc,.int .i64 ex.x.num] 114);have b6:Below wr.heap.size wr W6:=by rw[<-N0];exact Ns.alloc Ns.size _
   have xg:eb W6 w5.heap.size 114 ex.x:=by unfold eb;rw[hy,<-N0];exact ay w5 _ _ rfl
   have t6:aL [w.heap.size+1] w3 W6:=T4.trans (aL.of_below b6 (aL.refl [] _)) (λb hb=>by cases hb);have xb:=T5.out.below b6;have Q_:w.heap.size+1<w5.heap.size:=by have:=Ns.size;have:=T5.out.lt;omega
   obtain⟨XG,XB,PR⟩:=bu xg xb N0;clear N0 Ns T5 KPx T4 xg xb b6;obtain⟨⟨g0,g1,g2,g3,g4,g5,g6,g7,g8,g9⟩,_,gl⟩:=XG.out.ten;obtain⟨⟨j0,j1,j2,j3,j4,j5,j6,j7,j8,j9⟩,⟨q0,q1,q2,q3,q4,q5,q6,q7,q8,q9⟩,jl⟩:=XB.out.ten;rw[hy]at g0;generalize TI:Lr b0=bx at*;go_upto_region 8 with(fail)
   rw[PR.out]
   cases Rz:(y==kk)
   ·have hz:gK kk xs (es.take (k+1))=b0:=by rw[QL.out,Rz];rfl
    go_wp2;go_roundw
    case rel=>exact⟨k+1,by omega,by go_num,by rw[hz],t6,by rw[hz,TI];exact XB⟩
    case measure=>simp[intOf];omega
   ·by_cases QM:bx.num<ex.x.num
    ·have t1:decide (ex.x.num>bx.num)=true:=by simpa using QM
     have km:=KM.out W6 t6;have KM2:=ah km;clear km KM
     cases hmt:gh ex.x.vl xs
     ·rw[hmt]at KM2;have hz:gK kk xs (es.take (k+1))=b0:=by rw[QL.out,Rz,hmt,jU];rfl
      go_wp2_with fail
      refine KM2.out.mono ?_;rintro e w7 ⟨rfl,NG⟩;go_wp2;go_roundw
      case rel=>exact⟨k+1,by omega,by go_num,by rw[hz],t6.trans (aL.of_below NG (aL.refl [] _)) (λb hb=>by cases hb),by rw[hz,TI];exact am (XB.out.below NG)⟩
      case measure=>simp[intOf];omega
     ·rw[hmt]at KM2
      have hz:gK kk xs (es.take (k+1))=some ex:=by rw[QL.out,Rz,hmt,decide_eq_true QM];rfl
      go_wp2_with fail
      refine KM2.out.mono ?_;rintro e w7 ⟨rfl,NG⟩;have xg7:=XG.out.below NG;have xb7:=XB.out.below NG;have t7:=t6.trans (aL.of_below NG (aL.refl [] _)) (λb hb=>by cases hb);have XB7:=ah xb7;clear g0 g1 g2 g3 g4 g5 g6 g7 g8 g9 j0 j1 j2 j3 j4 j5 j6 j7 j8 j9 q0 q1 q2 q3 q4 q5 q6 q7 q8 q9 gl jl NG t6;obtain⟨⟨g0,g1,g2,g3,g4,g5,g6,g7,g8,g9⟩,_,gl⟩:=xg7.ten;obtain⟨⟨j0,j1,j2,j3,j4,j5,j6,j7,j8,j9⟩,⟨q0,q1,q2,q3,q4,q5,q6,q7,q8,q9⟩,jl⟩:=xb7.ten;clear xg7 xb7;go_wp2_with fail
      go_roundw
      case rel=>have hq:=BH XB7.out ex.x;have htq:=t7.inTen (.string ex.x.key) (.int .i64 ex.x.st) (.string ex.x.re) (.int .i64 ex.x.mi) (.slice ex.x.fA ex.x.fn ex.x.fc) (.string ex.x.bo) (.int .i64 ex.x.asked) (.int .i64 ex.x.got) (.slice ex.x.vA ex.x.vn ex.x.vc) (.int .i64 ex.x.num);rw[hy]at hq htq;unfold setTen at hq htq;exact⟨k+1,by omega,by go_num,by rw[hz];rfl,htq,by rw[hz];exact am hq⟩
      case measure=>simp[intOf];omega
    ·have t1:decide (ex.x.num>bx.num)=false:=by simpa using QM
     have hz:gK kk xs (es.take (k+1))=b0:=by rw[QL.out,Rz,decide_eq_false QM];rfl
     go_wp2;go_roundw
     case rel=>exact⟨k+1,by omega,by go_num,by rw[hz],t6,by rw[hz,TI];exact XB⟩
     case measure=>simp[intOf];omega
  ·have NI:k=es.length:=by omega
   subst NI;rw[HFULL.out]at T5 ⊢;have Ra:=(T4.2.2.2.2 w.heap.size (by omega) (by simp)).trans X13.out;have Xz:=KST.out wr T4;have M_:=KBW.out wr T4
   cases bst with
   |none=>
    have R0:ld w wr sb fp bl nn mm es put:=⟨fp,Xz,aL.of_below M_ (aL.refl _ _),λb hb=>Or.inl hb⟩;have R0:=R0.side RV.out (aw _) Ra (((((((((aL.refl [w.heap.size] wr).setCell w.heap.size 0 (.int .i64 0) (by simp)).setCell w.heap.size 1 (.string ⟨#[]⟩) (by simp)).setCell w.heap.size 2 (.int .i64 0) (by simp)).setCell w.heap.size 3 (.slice none 0 0) (by simp)).setCell w.heap.size 4 (.string ⟨#[]⟩) (by simp)).setCell w.heap.size 5 (.int .i64 0) (by simp)).setCell w.heap.size 6 (.int .i64 0) (by simp)).setCell w.heap.size 7 (.slice none 0 0) (by simp));have k0:=(ab Ra 0).1;have k1:=(ab Ra 1).1;have k2:=(ab Ra 2).1;have k3:=(ab Ra 3).1;have k4:=(ab Ra 4).1;have k5:=(ab Ra 5).1;have k6:=(ab Ra 6).1;have k7:=(ab Ra 7).1
    have j0:=(ab Ra 0).2.1;have j1:=(ab Ra 1).2.1;have j2:=(ab Ra 2).2.1;have j3:=(ab Ra 3).2.1;have j4:=(ab Ra 4).2.1;have j5:=(ab Ra 5).2.1;have j6:=(ab Ra 6).2.1;have j7:=(ab Ra 7).2.1;simp only[cT,cv,cS]at k0 k1 k2 k3 k4 k5 k6 k7;have HTO:=ah R0;clear R0 Ra Xz M_ KST KPK KFK KRO KMT KBW;go_wp2_with fail
    refine bodyPost_ret_by (v:=.tuple #[dI 0 ⟨#[]⟩ 0 none 0 0 ⟨#[]⟩ 0 0 none 0 0,.bool false]) ?_ rfl ?_
    ·rw[results_cell_tmp rfl];go_simp;rfl
    ·exact⟨rfl,HTO.out⟩
   |some b=>
    obtain⟨hbm,Np,hbmt⟩:=Fk kk xs es Nx;have Ot:=(Xz.good b hbm).1;have N9:=(Xz.bud.sz b hbm).2;have xb8:=T5.out.ten
    have kc:∀w',Below wr.heap.size wr w'->w'.cell? ⟨sb,0,none⟩=some (.pointer (some ⟨bl,0,none⟩))/\w'.cell? ⟨w.heap.size+1,8,none⟩=some (.slice b.x.vA b.x.vn b.x.vc):=λw' hb=>by have x4:=(T5.out.below hb).ten;have x5:=(Xz.below hb).blk;exact⟨(ab x5 0).1,x4.1.2.2.2.2.2.2.2.2.1⟩
    have kn:=fun W (hb:Below wr.heap.size wr W)=>Bb kk b.x.vA b.x.vn b.x.vc b.x.vl W (by
     have hg:=Ot.v.below hb;obtain⟨e1,e2⟩:=hg.rd;rw[e1];exact e2) (by have:=Ot.v.rd.1;have:=Ot.vl.1;omega) (by have:=Ot.vl.2;omega) (by omega) (HTB.out _ (bt M_ hb))
    have Nv:(⟨(iz kk b.x.vl).toArray⟩:ByteArray)=b.key:=by rw[Ot.key,Np]
    rw[Nv]at kn;have kg:=λW(hb:Below wr.heap.size wr W)=>LG (Xz.bud.below hb) b.key N9
    have kf:∀W w',Below wr.heap.size wr W->MK W w' fp bl nn mm (zt b.key es)->(w'.cell? ⟨sb,0,none⟩=some (.pointer (some ⟨bl,0,none⟩))/\w'.cell? ⟨w.heap.size+1,8,none⟩=some (.slice b.x.vA b.x.vn b.x.vc))/\ld w w' sb fp bl nn mm (zt b.key es) put/\eb w' (w.heap.size+1) 114 b.x/\mV w' b/\w.heap.size+1<w'.heap.size/\w'.heap[w.heap.size]?=some (.cells #[.int .i64 0,.string ⟨#[]⟩,.int .i64 0,.slice none 0 0,.string ⟨#[]⟩,.int .i64 0,.int .i64 0,.slice none 0 0] 105 (0,0)):=λW w' hb Nd=>by have hW:=Xz.below hb;have RO:=Nd.choose_spec.2.1;have R0:=hW.turn Nd (hW.goodsub RO (λb hb=>bJ _ hb) (λe he=>IA he));have x4:=T5.out.below hb;have x5:eb w' (w.heap.size+1) 114 b.x:=x4.of (RO.2.2.2.2 _ x4.lt (λhm=>by have:=RV.out _ (bJ _ hm);omega));have x6:=(RO.2.2.2.2 sb hW.lt hW.sep).trans hW.blk;have x7:=(hb.block w.heap.size (by have:=T5.out.lt;omega)).trans Ra;have x8:=(RO.2.2.2.2 w.heap.size (ab x7 0).2.2 (λhm=>by have:=RV.out _ (bJ _ hm);omega)).trans x7;exact⟨⟨(ab x6 0).1,x5.ten.1.2.2.2.2.2.2.2.2.1⟩,ld.trans (aL.of_below (bt M_ hb) (aL.refl _ _)) (λb hb=>Or.inl hb) R0,x5,(Ot.below hb).touch RO (λb hb=>hW.kind b (bJ _ hb)),x5.lt,x8⟩
    have PD:Below wr.heap.size wr wr.drew:=(aO _ _).drew;obtain⟨KC,KN,KG,KF⟩:=bK kc kn kg kf;clear kc kn kg kf Xz M_ Ot Ra xb8 T5 Nv KST KPK KFK KRO KMT KBW H3 X3 X13 HO HTB;go_upto_region 13 with(fail)
    refine BW KC.out PD λM7=>?_
    refine aX 0 1 2 3 M7 ?_;refine aX 4 5 6 7 M7 ?_;refine cL 8 λK hK=>?_
    go_simp;refine(KN.out _ PD).mono ?_;rintro e v2 ⟨rfl,Od⟩;have Oc:=bt PD Od;go_wp2_with fail
    refine hK.out _ _ (KC.out _ Oc) (λM7=>?_);clear hK K
    try simp only[Act.put,go,gk,gn]
    refine cL 9 λK hK=>?_
    go_simp;refine(KG.out _ Oc).mono ?_;rintro e v3 ⟨rfl,Nd⟩;have kf:=KF.out _ _ Oc Nd;go_wp2_with fail
    refine hK.out _ _ kf.1 (λM7=>?_);clear hK K
    try simp only[Act.put,go,gk,gn]
    refine wpAnyH_done (by kernel_rfl) ?_ _;clear M7;obtain⟨-,R0,TI,Ot,hlt8,xr8⟩:=kf;obtain⟨⟨g0,g1,g2,g3,g4,g5,g6,g7,g8,g9⟩,_,gl⟩:=TI.ten
    have kcl:=wv b.x.st b.x.mi b.x.asked b.x.got b.x.re b.x.bo b.x.fA b.x.vA b.x.fn b.x.fc b.x.vn b.x.vc b.x.fl b.x.vl v3 (by
     obtain⟨e1,e2⟩:=Ot.f.rd;rw[e1];exact e2) (by
     obtain⟨e1,e2⟩:=Ot.v.rd;rw[e1];exact e2) (by have:=Ot.f.rd.1;have:=Ot.fl.1;omega) (by have:=Ot.v.rd.1;have:=Ot.vl.1;omega)
    have Qi:w.heap.size<=v3.heap.size:=by omega
    unfold dI at kcl;obtain⟨KCL,HTO,XR8⟩:=bu kcl R0 xr8;clear kcl R0 TI Ot xr8 KC KN KG KF;go_wp2_with fail
    refine KCL.out.mono ?_;rintro e w8 ⟨a8,ZJ,v8,ZL,rfl,UZ,PN,Oa⟩;unfold dI;have RG:=(Oa.block w.heap.size (by omega)).trans XR8.out;have hto9:=(HTO.out.then Oa).side RV.out (aw _) RG (((((((((aL.refl [w.heap.size] w8).setCell w.heap.size 0 (.int .i64 b.x.st) (by simp)).setCell w.heap.size 1 (.string b.x.re) (by simp)).setCell w.heap.size 2 (.int .i64 b.x.mi) (by simp)).setCell w.heap.size 3 (.slice a8 b.x.fl.length ZJ) (by simp)).setCell w.heap.size 4 (.string b.x.bo) (by simp)).setCell w.heap.size 5 (.int .i64 b.x.asked) (by simp)).setCell w.heap.size 6 (.int .i64 b.x.got) (by simp)).setCell w.heap.size 7 (.slice v8 b.x.vl.length ZL) (by simp));have q1:∀k,(Value.slice a8 b.x.fl.length ZJ).ownBlock=some k->w.heap.size≠k:=λk hk=>by have:=(UZ.lt k hk).1;omega
    have q2:∀k,(Value.slice v8 b.x.vl.length ZL).ownBlock=some k->w.heap.size≠k:=λk hk=>by have:=(PN.lt k hk).1;omega
    have hof9:=(bp 7 (.slice v8 b.x.vl.length ZL) (bp 6 (.int .i64 b.x.got) (bp 5 (.int .i64 b.x.asked) (bp 4 (.string b.x.bo) (bp 3 (.slice a8 b.x.fl.length ZJ) (bp 2 (.int .i64 b.x.mi) (bp 1 (.string b.x.re) (bp 0 (.int .i64 b.x.st) (UZ.base Qi) (λx=>q1 _ x rfl)) (λx=>q1 _ x rfl)) (λx=>q1 _ x rfl)) (λx=>q1 _ x rfl)) (λx=>q1 _ x rfl)) (λx=>q1 _ x rfl)) (λx=>q1 _ x rfl)) (λx=>q1 _ x rfl))
    have hov9:=(bp 7 (.slice v8 b.x.vl.length ZL) (bp 6 (.int .i64 b.x.got) (bp 5 (.int .i64 b.x.asked) (bp 4 (.string b.x.bo) (bp 3 (.slice a8 b.x.fl.length ZJ) (bp 2 (.int .i64 b.x.mi) (bp 1 (.string b.x.re) (bp 0 (.int .i64 b.x.st) (PN.base Qi) (λx=>q2 _ x rfl)) (λx=>q2 _ x rfl)) (λx=>q2 _ x rfl)) (λx=>q2 _ x rfl)) (λx=>q2 _ x rfl)) (λx=>q2 _ x rfl)) (λx=>q2 _ x rfl)) (λx=>q2 _ x rfl));have k0:=(ab RG 0).1;have k1:=(ab RG 1).1;have k2:=(ab RG 2).1;have k3:=(ab RG 3).1;have k4:=(ab RG 4).1;have k5:=(ab RG 5).1;have k6:=(ab RG 6).1;have k7:=(ab RG 7).1
    have j0:=(ab RG 0).2.1;have j1:=(ab RG 1).2.1;have j2:=(ab RG 2).2.1;have j3:=(ab RG 3).2.1;have j4:=(ab RG 4).2.1;have j5:=(ab RG 5).2.1;have j6:=(ab RG 6).2.1;have j7:=(ab RG 7).2.1;simp only[cT,cv,cS]at k0 k1 k2 k3 k4 k5 k6 k7;have HF9:=ah (aB hof9 (aB hov9 hto9));clear hof9 hov9 hto9 q1 q2 RG UZ PN Oa g0 g1 g2 g3 g4 g5 g6 g7 g8 g9 gl;go_wp2_with fail
    refine bodyPost_ret_by (v:=.tuple #[dI b.x.st b.x.re b.x.mi a8 b.x.fl.length ZJ b.x.bo b.x.asked b.x.got v8 b.x.vl.length ZL,.bool true]) ?_ rfl ?_
    ·rw[results_cell_tmp rfl];go_simp;rfl
    ·exact⟨a8,ZJ,v8,ZL,rfl,HF9.out.1,HF9.out.2.1,HF9.out.2.2⟩
theorem Br{w:World}{sb:Nat}{fp:List Nat}{bl:Nat}{nn mm:Int}{es:List cw}{put:Int}(h:fm w sb fp bl nn mm es put)(kk:List UInt8)(A:Option Addr)(n c:Nat)(xs:List aU)(hr:Rd A n 2 (aJ xs) w)(hn:n<=100)(hs:∀f∈xs,f.1.length<=10000/\f.2.length<=10000)(hk:kk.length<=1000)(ht:∀W,Below w.heap.size w W->dV W):Calls Tryz.prog 219 #[.pointer (some ⟨sb,0,none⟩),.string ⟨kk.toArray⟩,.slice A n c] w (sA w sb fp bl nn mm es put (gK kk xs es)):=zQ h kk A n c xs hr hn (λf hf=>⟨bj (hs f hf).1 (by decide),bj (hs f hf).2 (by decide)⟩) hk ht
theorem Em(n m:Int)(w:World)(hn:1<=n/\n<=4096)(hm:1<=m/\m<=1073741824):Calls Tryz.prog 21 #[.int .i64 n,.int .i64 m] w λe w'=>∃sb fp bl,e=.returned (.pointer (some ⟨sb,0,none⟩))/\fm w' sb fp bl n m [] 0/\Below w.heap.size w w'/\∀b∈sb::fp,w.heap.size<=b:=by
 have K1:=ah (LP n m w hn hm);go_enter Tryz.func21,Tryz.ntmps21
 go_wp2_with fail
 refine K1.out.mono ?_;rintro e w1 ⟨bl,fp,rfl,hq,hb,hf⟩;have hq2:=hq.below ((aO w1.heap.size w1).alloc (aw _) (.cells #[.pointer (some ⟨bl,0,none⟩),.int .i64 0] 116));have NV:=hq.low;obtain⟨HQ,HB,HF,HL⟩:=bK hq2 hb hf NV;clear hq hq2 hb hf NV;go_wp2;go_ret;refine⟨w1.heap.size,fp,bl,rfl,⟨ay w1 _ _ rfl,HQ.out,λhm=>by have:=HL.out _ hm;omega,by simp⟩,HB.out.alloc HB.out.size _,λb hb=>?_⟩;rcases cZ.1 hb with rfl|hb
 ·exact HB.out.size
 ·exact HF.out b hb
theorem I6{α:Type}:∀(l:List α),l.length=2->∃u v,l=[u,v]
 | [u,v],_=>⟨u,v,rfl⟩
theorem wA{α:Type}(n:Nat)(Pr:Nat->α->Prop)(h:∀i,i<n->∃x,Pr i x):∃xs:List α,xs.length=n/\∀i(hi:i<xs.length),Pr i xs[i]:=by
 induction n with
 |zero=>exact⟨[],rfl,λi hi=>by simp at hi⟩
 |succ n ih=>
  obtain⟨xs,hl,hx⟩:=ih (λi hi=>h i (by omega));obtain⟨x,PQ⟩:=h n (by omega);refine⟨xs++[x],by simp[hl],λi hi=>?_⟩;rw[bP,dM]at hi;by_cases XJ:i<xs.length
  ·rw[List.getElem_append_left XJ];exact hx i XJ
  ·have:i=n:=by omega
   subst this;rw[List.getElem_append_right (by omega)];simpa[hl]using PQ
section
variable {H:Type}{enc:TypeId × Value->H}{W:World}
end
theorem DQ{α:Type}:∀(l:List α),l.length=5->∃a b c d e,l=[a,b,c,d,e]
 | [a,b,c,d,e],_=>⟨a,b,c,d,e,rfl⟩
section
variable {H:Type}{enc:TypeId × Value->H}{W:World}
end
def dS(w0 w:World)(sb bl:Nat)(n m:Int)(es:List cw)(put:Int):Prop:=∃fp,fm w sb fp bl n m es put/\Below w0.heap.size w0 w/\∀b∈sb::fp,w0.heap.size<=b
theorem dS.to{w0 w w':World}{sb bl:Nat}{n m:Int}{NE:List cw}{put':Int}{fp:List Nat}(hb:Below w0.heap.size w0 w)(hf:∀b∈sb::fp,w0.heap.size<=b)(h:ld w w' sb fp bl n m NE put'):dS w0 w' sb bl n m NE put':=by
 obtain⟨fp',ha,ht,hg⟩:=h;refine⟨fp',ha,hb.trans (ht.below hf hb.size),λb N4=>?_⟩;rcases cZ.1 N4 with rfl|N4
 ·exact hf _ fD
 ·rcases hg b N4 with h'|h'
  ·exact hf b (bJ _ h')
  ·exact bj hb.size h'
theorem dS.below{w0 w w':World}{sb bl:Nat}{n m:Int}{es:List cw}{put:Int}(h:dS w0 w sb bl n m es put)(hb:Below w.heap.size w w'):dS w0 w' sb bl n m es put:=by obtain⟨fp,ha,h1,hf⟩:=h;exact⟨fp,ha.below hb,bt h1 hb,hf⟩
theorem dS.base{w0 w:World}{sb bl:Nat}{n m:Int}{es:List cw}{put:Int}(h:dS w0 w sb bl n m es put):Below w0.heap.size w0 w:=by obtain⟨fp,ha,h1,hf⟩:=h;exact h1
def de(w w':World):Prop:=w.heap.size<=w'.heap.size/\∀(g:Nat)(cs:Array Value)(T:TypeId)(z:Nat × Nat),w.heap[g]?=some (Obj.cells cs T z)->T≠171->T≠174->T≠116->w'.heap[g]?=some (Obj.cells cs T z)
theorem de.trans{w w1 w2:World}(h:de w w1)(h2:de w1 w2):de w w2:=⟨bj h.1 h2.1,λg cs T z h1 a b c=>h2.2 g cs T z (h.2 g cs T z h1 a b c) a b c⟩
theorem de.of_below{w w':World}(hb:Below w.heap.size w w'):de w w':=⟨hb.size,λg cs T z h1 _ _ _=>by
 rcases ef g w.heap.size with h'|h'
 ·exact(hb.block g h').trans h1
 ·simp[fy h']at h1⟩
theorem ld.kept{w w':World}{sb:Nat}{fp:List Nat}{bl:Nat}{n m:Int}{es NE:List cw}{put put':Int}(ht:ld w w' sb fp bl n m NE put')(h:fm w sb fp bl n m es put):de w w':=by
 obtain⟨fp',_,ht,_⟩:=ht;refine⟨ht.2.2.2.1,λg cs T z h1 a b c=>?_⟩;rcases ef g w.heap.size with h'|h'
 ·refine(ht.2.2.2.2 g h' (λhm=>?_)).trans h1;rcases cZ.1 hm with rfl|hm
  ·rw[h.blk]at h1;injection h1 with h1
   injection h1 with _ h1 _
   exact c h1.symm
  ·rcases h.bud.kind g hm _ _ _ h1 with e|e
   ·exact a e
   ·exact b e
 ·simp[fy h']at h1
structure MU(x:Hv)(key:List UInt8)(st mi asked got:Int)(re bo:ByteArray)(fl vl:List aU)(num:Int):Prop where
 key:x.key=⟨key.toArray⟩
 st:x.st=st
 mi:x.mi=mi
 asked:x.asked=asked
 got:x.got=got
 re:x.re=re
 bo:x.bo=bo
 fl:x.fl=fl
 vl:x.vl=vl
 num:x.num=num
def BU(w0 w:World)(sb bl:Nat)(nn mm:Int)(es:List cw)(put:Int)(bo:Option cw)(e:Ending)(w':World):Prop:=
 match bo with
 |none=>e=.returned (.tuple #[dI 0 ⟨#[]⟩ 0 none 0 0 ⟨#[]⟩ 0 0 none 0 0,.bool false])/\dS w0 w' sb bl nn mm es put/\de w w'
 |some b=>∃a ac v vc,e=.returned (.tuple #[dI b.x.st b.x.re b.x.mi a b.x.fl.length ac b.x.bo b.x.asked b.x.got v b.x.vl.length vc,.bool true])/\aM w.heap.size (.slice a b.x.fl.length ac) b.x.fl w'/\aM w.heap.size (.slice v b.x.vl.length vc) b.x.vl w'/\dS w0 w' sb bl nn mm (zt b.key es) put/\de w w'
theorem fm.kept{w w':World}{sb:Nat}{fp:List Nat}{bl:Nat}{n m:Int}{es:List cw}{put:Int}(h:fm w sb fp bl n m es put)(ht:aL (sb::fp) w w'):de w w':=by
 refine⟨ht.2.2.2.1,λg cs T z h1 a b c=>?_⟩;rcases ef g w.heap.size with h'|h'
 ·refine(ht.2.2.2.2 g h' (λhm=>?_)).trans h1;rcases cZ.1 hm with rfl|hm
  ·rw[h.blk]at h1;injection h1 with h1
   injection h1 with _ h1 _
   exact c h1.symm
  ·rcases h.bud.kind g hm _ _ _ h1 with e|e
   ·exact a e
   ·exact b e
 ·simp[fy h']at h1
theorem Fu{w0 w:World}{sb bl:Nat}{nn mm:Int}{es:List cw}{put:Int}(h:dS w0 w sb bl nn mm es put)(key:List UInt8)(st mi asked got:Int)(re bo:ByteArray)(A V:Option Addr)(n c m d:Nat)(fl vl:List aU)(hr:∀W,de w W->Rd A n 2 (aJ fl) W)(hq:∀W,de w W->Rd V m 2 (aJ vl) W)(hk:key.length<=1000)(hn:fl.length<=100)(hm:vl.length<=4000)(hs:aE fl<=10000)(QW:aE vl<=1000000)(PC:re.size<=1000000)(O9:bo.size<=1000000)(hp:0<=put/\put<=1000)(ht:dV w0):Calls Tryz.prog 231 #[.pointer (some ⟨sb,0,none⟩),.string ⟨key.toArray⟩,dI st re mi A n c bo asked got V m d] w λe w'=>∃x,MU x key st mi asked got re bo fl vl (put+1)/\e=.returned (.bool (py (kB key vl) (iG nn mm (kB key vl) (nZ ⟨key.toArray⟩ re bo fl vl) x es).2))/\dS w0 w' sb bl nn mm (iG nn mm (kB key vl) (nZ ⟨key.toArray⟩ re bo fl vl) x es).2 (put+1)/\de w w':=by
 obtain⟨fp,ha,h1,hf⟩:=h;have M_:∀W,aL (sb::fp) w W->Below w0.heap.size w0 W:=λW ht=>h1.trans (ht.below hf h1.size)
 refine(E6 ha key st mi asked got re bo A V n c m d fl vl (λW ht=>hr W (ha.kept ht)) (λW ht=>hq W (ha.kept ht)) hk hn hm hs QW PC O9 hp (λW h'=>ht.on (M_ W h'))).mono ?_;rintro e w' ⟨a,ac,v,vc,rfl,R0⟩;exact⟨⟨⟨key.toArray⟩,st,re,mi,a,fl.length,ac,bo,asked,got,v,vl.length,vc,put+1,fl,vl⟩,⟨rfl,rfl,rfl,rfl,rfl,rfl,rfl,rfl,rfl,rfl⟩,rfl,dS.to h1 hf R0,R0.kept ha⟩
theorem lU{B:Nat}{ls:List (List UInt8)}{a:Option Addr}{n c:Nat}{w:World}(h:aQ B (.slice a n c) ls w)(hl:ls.length<=1000000000)(x:List UInt8):Calls Tryz.prog 42 #[.slice a n c,.string ⟨x.toArray⟩] w λe w'=>e=.returned (.bool (ls.contains x))/\w'=w:=by
 obtain⟨rfl,hr⟩:=h.rd;rcases mw ls.length with h0|h0
 ·have:ls=[]:=mz h0;subst this;exact Tryz.slices_Contains_string_empty a c _ w
 ·obtain⟨b,o,rfl,hb,hc⟩:=hr.2 h0
  have k:=Tryz.slices_Contains_string b o ls.length c (ls.map fun l=>(⟨l.toArray⟩:ByteArray)) ⟨x.toArray⟩ w (by simp) (by omega) (fun j hj=>by
   have Uk:j<ls.length:=by simpa using hj
   rw[hc j (.string ⟨(ls[j]).toArray⟩) (by simp[aF,Uk])];simp[List.getD,Uk])
  have e:Lib.containsS ((ls.map λl=>(⟨l.toArray⟩:ByteArray)).take ls.length) ⟨x.toArray⟩=ls.contains x:=by
   rw[jJ (by simp),jj,Lib.containsS_iff,List.contains_iff_mem,eY];constructor
   ·rintro⟨l,hl,e⟩
    have:l=x:=by have:=congrArg (λb:ByteArray=>b.data.toList) e;simpa using this
    rw[<-this];exact hl
   ·intro hx;exact⟨x,hx,rfl⟩
  rw[e]at k;exact k
def gd(T:TypeId):Prop:=T≠70/\T≠171/\T≠174/\T≠116
theorem fm.set{w:World}{sb:Nat}{fp:List Nat}{bl:Nat}{n m:Int}{es:List cw}{put:Int}(h:fm w sb fp bl n m es put){b:Nat}{cs:Array Value}{T:TypeId}{z:Nat × Nat}(hb:w.heap[b]?=some (.cells cs T z))(hT:gd T)(j:Nat)(v:Value):fm (w.setCell ⟨b,j,none⟩ v) sb fp bl n m es put:=by
 obtain⟨a1,a2,a3,a4⟩:=hT
 have hs:sb≠b:=λe=>by
  have h1:=h.blk;rw[e,hb]at h1;injection h1 with h1
  injection h1 with _ h1 _
  exact a4 h1
 have hf:b ∉ fp:=λhm=>by
  rcases h.bud.kind b hm _ _ _ hb with e|e
  ·exact a2 e
  ·exact a3 e
 have ht:aL [b] w (w.setCell ⟨b,j,none⟩ v):=(aL.refl [b] w).setCell b j v (cA.2 rfl)
 have hk:∀c∈[b],∀cs T z,w.heap[c]?=some (.cells cs T z)->T≠70:=λc hc cs' T' z' h1=>by
  rw[cA.1 hc,hb]at h1;injection h1 with h1
  injection h1 with _ h1 _
  rw[<-h1];exact a1
 exact⟨(aG _ _ _ _ _ hs).trans h.blk,h.bud.keep ht (λc hc=>λhm=>hf (by rw[<-cA.1 hm];exact hc)),h.sep,λe he=>⟨(h.good e he).1.touch ht hk,(h.good e he).2⟩⟩
theorem dS.set{w0 w:World}{sb bl:Nat}{n m:Int}{es:List cw}{put:Int}(h:dS w0 w sb bl n m es put){b:Nat}{cs:Array Value}{T:TypeId}{z:Nat × Nat}(hb:w.heap[b]?=some (.cells cs T z))(hT:gd T)(h0:w0.heap.size<=b)(j:Nat)(v:Value):dS w0 (w.setCell ⟨b,j,none⟩ v) sb bl n m es put:=by obtain⟨fp,ha,h1,hf⟩:=h;exact⟨fp,ha.set hb hT j v,h1.setCell (p:=⟨b,j,none⟩) h0 v,hf⟩
theorem fm.beside{w w':World}{sb:Nat}{fp:List Nat}{bl:Nat}{n m:Int}{es:List cw}{put:Int}(h:fm w sb fp bl n m es put){b:Nat}{cs:Array Value}{T:TypeId}{z:Nat × Nat}(hb:w.heap[b]?=some (.cells cs T z))(hT:gd T)(hs:ap b w w'):fm w' sb fp bl n m es put:=by
 obtain⟨a1,a2,a3,a4⟩:=hT
 have P8:sb≠b:=λe=>by
  have h1:=h.blk;rw[e,hb]at h1;injection h1 with h1
  injection h1 with _ h1 _
  exact a4 h1
 have hf:b ∉ fp:=λhm=>by
  rcases h.bud.kind b hm _ _ _ hb with e|e
  ·exact a2 e
  ·exact a3 e
 have ht:aL [b] w w':=⟨hs.1.os,hs.1.tape,hs.1.output,hs.1.size,λc hc hn=>hs.2 c hc (λe=>hn (cA.2 e))⟩
 have hk:∀c∈[b],∀cs T z,w.heap[c]?=some (.cells cs T z)->T≠70:=λc hc cs' T' z' h1=>by
  rw[cA.1 hc,hb]at h1;injection h1 with h1
  injection h1 with _ h1 _
  rw[<-h1];exact a1
 exact⟨(hs.2 sb h.lt P8).trans h.blk,h.bud.keep ht (λc hc=>λhm=>hf (by rw[<-cA.1 hm];exact hc)),h.sep,λe he=>⟨(h.good e he).1.touch ht hk,(h.good e he).2⟩⟩
theorem dS.beside{w0 w w':World}{sb bl:Nat}{n m:Int}{es:List cw}{put:Int}(h:dS w0 w sb bl n m es put){b:Nat}{cs:Array Value}{T:TypeId}{z:Nat × Nat}(hb:w.heap[b]?=some (.cells cs T z))(hT:gd T)(h0:w0.heap.size<=b)(hs:ap b w w'):dS w0 w' sb bl n m es put:=by obtain⟨fp,ha,h1,hf⟩:=h;exact⟨fp,ha.beside hb hT hs,h1.trans (hs.1.mono h0),hf⟩
theorem de.set{w w':World}(h:de w w'){b:Nat}(hb:w.heap.size<=b)(j:Nat)(v:Value):de w (w'.setCell ⟨b,j,none⟩ v):=⟨bj h.1 (by simp),λg cs T z h1 a1 a2 a3=>(aG _ _ _ _ _ (by have:=ae h1;omega)).trans (h.2 g cs T z h1 a1 a2 a3)⟩
theorem de.beside{w w1 w2:World}(h:de w w1){b:Nat}(hb:w.heap.size<=b)(hs:ap b w1 w2):de w w2:=
 ⟨bj h.1 hs.size,fun g cs T z h1 a1 a2 a3=>by have h2:=h.2 g cs T z h1 a1 a2 a3;exact(hs.2 g (ae h2) (by have:=ae h1;omega)).trans h2⟩
theorem de.below{w w1 w2:World}(h:de w w1)(hb:Below w1.heap.size w1 w2):de w w2:=h.trans (de.of_below hb)
theorem de.blk{w w':World}(h:de w w'){b:Nat}{cs:Array Value}{T:TypeId}{z:Nat × Nat}(hb:w.heap[b]?=some (.cells cs T z))(hT:gd T):w'.heap[b]?=some (.cells cs T z):=h.2 b cs T z hb hT.2.1 hT.2.2.1 hT.2.2.2
theorem CN{w0 w:World}{sb bl:Nat}{nn mm:Int}{es:List cw}{put:Int}(h:dS w0 w sb bl nn mm es put)(kk:List UInt8)(A:Option Addr)(n c:Nat)(xs:List aU)(hr:Rd A n 2 (aJ xs) w)(hn:n<=100)(hs:∀f∈xs,f.1.length<=10000/\f.2.length<=10000)(hk:kk.length<=1000)(ht:dV w0):Calls Tryz.prog 219 #[.pointer (some ⟨sb,0,none⟩),.string ⟨kk.toArray⟩,.slice A n c] w (BU w0 w sb bl nn mm es put (gK kk xs es)):=by
 obtain⟨fp,ha,h1,hf⟩:=h;refine(Br ha kk A n c xs hr hn hs hk (λW hb=>ht.on (bt h1 hb))).mono ?_;intro e w' hp;unfold sA at hp;unfold BU
 cases hb:gK kk xs es with
 |none=>
  rw[hb]at hp;exact⟨hp.1,dS.to h1 hf hp.2,hp.2.kept ha⟩
 |some b=>
  rw[hb]at hp;obtain⟨a,ac,v,vc,Ul,h2,h3,h4⟩:=hp;exact⟨a,ac,v,vc,Ul,h2,h3,dS.to h1 hf h4,h4.kept ha⟩
def dP(k b:ByteArray)(hit has:Bool):Array Value:=#[.string k,.string b,.bool hit,.bool has,.int .i64 0,.string ⟨#[]⟩,.int .i64 0,.slice none 0 0,.string ⟨#[]⟩,.int .i64 0,.int .i64 0,.slice none 0 0]
def uG(k b:ByteArray)(hit has:Bool):Value:=.agg (dP k b hit has)
theorem CS(k b:ByteArray):((((((((((dP k b false false).setIfInBounds 4 (.int .i64 0)).setIfInBounds 5 (.string ⟨#[]⟩)).setIfInBounds 6 (.int .i64 0)).setIfInBounds 7 (.slice none 0 0)).setIfInBounds 8 (.string ⟨#[]⟩)).setIfInBounds 9 (.int .i64 0)).setIfInBounds 10 (.int .i64 0)).setIfInBounds 11 (.slice none 0 0)).setIfInBounds 3 (.bool false))=dP k b false false:=by unfold dP;simp only[cH,cI,cF]
theorem FJ(k b:ByteArray):(dP k b false false).setIfInBounds 2 (.bool false)=dP k b false false:=by unfold dP;simp only[cH,cI,cF]
theorem E8(k b x:ByteArray):(dP k b false false).setIfInBounds 1 (.string x)=dP k x false false:=by unfold dP;simp only[cH,cI,cF]
theorem D8(k b:ByteArray):(((((((((((((dP k b false false).setIfInBounds 0 (.string k)).setIfInBounds 1 (.string b)).setIfInBounds 2 (.bool false)).setIfInBounds 3 (.bool false)).setIfInBounds 4 (.int .i64 0)).setIfInBounds 5 (.string ⟨#[]⟩)).setIfInBounds 6 (.int .i64 0)).setIfInBounds 7 (.slice none 0 0)).setIfInBounds 8 (.string ⟨#[]⟩)).setIfInBounds 9 (.int .i64 0)).setIfInBounds 10 (.int .i64 0)).setIfInBounds 11 (.slice none 0 0))=dP k b false false:=by unfold dP;simp only[cH,cI,cF]
structure SK(w0 w:World)(sb bl:Nat)(nn mm:Int)(es:List cw)(put:Int)(W:World):Prop where
 live:dS w0 W sb bl nn mm es put
 kept:de w W
 hi:w0.heap.size<=w.heap.size
section
variable {w0 w W W':World}{sb bl:Nat}{nn mm:Int}{es:List cw}{put:Int}
theorem SK.below(h:SK w0 w sb bl nn mm es put W)(hb:Below W.heap.size W W'):SK w0 w sb bl nn mm es put W':=⟨h.live.below hb,h.kept.below hb,h.hi⟩
theorem SK.to{NE:List cw}{put':Int}(h:SK w0 w sb bl nn mm es put W)(hl:dS w0 W' sb bl nn mm NE put')(hk:de W W'):SK w0 w sb bl nn mm NE put' W':=⟨hl,h.kept.trans hk,h.hi⟩
theorem SK.set(h:SK w0 w sb bl nn mm es put W){b:Nat}{cs:Array Value}{T:TypeId}{z:Nat × Nat}(hb:W.heap[b]?=some (.cells cs T z))(hT:gd T)(hw:w.heap.size<=b)(j:Nat)(v:Value):SK w0 w sb bl nn mm es put (W.setCell ⟨b,j,none⟩ v):=⟨h.live.set hb hT (bj h.hi hw) j v,h.kept.set hw j v,h.hi⟩
end
theorem aj{w:World}{b j:Nat}{cs:Array Value}{T:TypeId}{v:Value}(h:w.heap[b]?=some (.cells cs T (0,0))):(w.setCell ⟨b,j,none⟩ v).heap[b]?=some (.cells (cs.setIfInBounds j v) T (0,0)):=ar h
def LS(w0 w:World)(sb bl:Nat)(nn mm:Int)(es:List cw)(put:Int)(cf:Array Value)(sc ho:ByteArray)(po:Int)(pa qu:ByteArray)(hq:Bool)(pc:Array Value)(W:World):Prop:=W.heap[w.heap.size]?=some (.cells cf 32 (0,0))/\gu (w.heap.size+1) sc ho po pa qu hq W/\W.heap[w.heap.size+1+1]?=some (.cells pc 260 (0,0))/\SK w0 w sb bl nn mm es put W
section
variable {w0 w W W':World}{sb bl:Nat}{nn mm:Int}{es:List cw}{put:Int}{cf pc:Array Value}{sc ho pa qu:ByteArray}{po:Int}{hq:Bool}
theorem LS.below(h:LS w0 w sb bl nn mm es put cf sc ho po pa qu hq pc W)(hb:Below W.heap.size W W'):LS w0 w sb bl nn mm es put cf sc ho po pa qu hq pc W':=⟨(hb.block _ (ae h.1)).trans h.1,h.2.1.below hb,(hb.block _ (ae h.2.2.1)).trans h.2.2.1,h.2.2.2.below hb⟩
theorem LS.to{NE:List cw}{put':Int}(h:LS w0 w sb bl nn mm es put cf sc ho po pa qu hq pc W)(hl:dS w0 W' sb bl nn mm NE put')(hk:de W W'):LS w0 w sb bl nn mm NE put' cf sc ho po pa qu hq pc W':=⟨hk.blk h.1 ⟨by decide,by decide,by decide,by decide⟩,hk.blk h.2.1 ⟨by decide,by decide,by decide,by decide⟩,hk.blk h.2.2.1 ⟨by decide,by decide,by decide,by decide⟩,h.2.2.2.to hl hk⟩
theorem LS.set(h:LS w0 w sb bl nn mm es put cf sc ho po pa qu hq pc W)(j:Nat)(v:Value):LS w0 w sb bl nn mm es put cf sc ho po pa qu hq (pc.setIfInBounds j v) (W.setCell ⟨w.heap.size+1+1,j,none⟩ v):=⟨(aG _ _ _ _ _ (by omega)).trans h.1,h.2.1.other (by omega),aj h.2.2.1,h.2.2.2.set h.2.2.1 ⟨by decide,by decide,by decide,by decide⟩ (by omega) j v⟩
theorem LS.at(h:LS w0 w sb bl nn mm es put cf sc ho po pa qu hq pc W)(j:Nat):W.cell? ⟨w.heap.size+1+1,j,none⟩=pc[j]?/\W.frozen? ⟨w.heap.size+1+1,j,none⟩=false:=⟨(ab h.2.2.1 j).1,(ab h.2.2.1 j).2.1⟩
end
theorem EI{w0 w:World}{sb bl:Nat}{nn mm:Int}{es:List cw}{put:Int}(hl:dS w0 w sb bl nn mm es put)(C:B8)(A F:Option Addr)(c m d:Nat)(now:Int)(u:fg)(req:List aU)(hM:cq w0)(hT:dV w0)(hu:lI u)(hF:∀W,de w W->Rd A C.fwd.length 1 (aF C.fwd) W)(hq:∀W,de w W->Rd F m 2 (aJ req) W)(hn:C.fwd.length<=16)(hm:m<=100)(Q8:cj u=0)(TF:C.dev.length<=100000)(Pd:(jI C.dev).length<=1000)(PX:∀x∈C.fwd,x.length<=1000)(Qo:aE req<=8000)(PS:(nI u).length<=1000)(ON:gK (nI u) req es=none):Calls Tryz.prog 169 #[.pointer (some ⟨sb,0,none⟩),pB C A c,dR u,.slice F m d,.int .i64 now] w λe w'=>e=.returned (.tuple #[uG ⟨(nI u).toArray⟩ ⟨(jL C.dev C.fwd u req []).toArray⟩ false false,.int .i64 0])/\dS w0 w' sb bl nn mm es put/\de w w':=by
 have Ol:=hl.base;have hw0:w0.heap.size<=w.heap.size:=Ol.size;have k1:=λW(hb:Below w0.heap.size w0 W)=>lS u W (hM.below hb) (hT.on hb) hu
 have k2:=λW(hb:Below w0.heap.size w0 W)=>wm jR u W (hM.below hb) (hT.on hb) hu rfl
 have k3:=λW(hv:dS w0 W sb bl nn mm es put)(hk:de w W)=>CN hv (nI u) F m d req (hq W hk) hm (λf hf=>by have:=bM hf;omega) PS hT
 have k4:=λW(hb:Below w0.heap.size w0 W)(hk:de w W)=>Fm C A F none c m d 0 0 u req [] W (hM.below hb) (hT.on hb) hu (hF W hk) (hq W hk) Rd.nil hn (by omega) (by omega) Q8 TF Pd PX Qo (by decide)
 rw[Q8]at k1;rw[ON]at k3;unfold BU at k3;simp only at k3
 generalize jL C.dev C.fwd u req []=ft at*;generalize nI u=ky at*;obtain⟨host,en,V_,inc,dep,dev,fwd⟩:=C;unfold pB zU at*;simp only at hF hn TF PX Pd k4 ⊢
 obtain⟨sc,ho,po,pa,qu,uq⟩:=u;obtain⟨Z9,rfl⟩:∃b:ByteArray,sc=b.data.toList:=⟨⟨sc.toArray⟩,rfl⟩;unfold dR at*;simp only[bN]at*;obtain⟨cf,Pn⟩:=aH (#[.string ⟨host.toArray⟩,.int .i64 en,.int .i64 V_,.int .i64 inc,.int .i64 dep,.string ⟨dev.toArray⟩,.slice A fwd.length c]:Array Value);obtain⟨WA,NK⟩:=bg w (.cells #[.string ⟨host.toArray⟩,.int .i64 en,.int .i64 V_,.int .i64 inc,.int .i64 dep,.string ⟨dev.toArray⟩,.slice A fwd.length c] 32);obtain⟨WB,Sj⟩:=bg WA (.cells #[.string Z9,.string ⟨ho.toArray⟩,.int .i64 po,.string ⟨pa.toArray⟩,.string ⟨qu.toArray⟩,.bool uq] 93);obtain⟨W0,Nb⟩:=bg WB (.cells (dP ⟨#[]⟩ ⟨#[]⟩ false false) 260);have Wm:=bm NK;have RQ:=bm Sj;have Yj:=bm Nb;have hz:WA.heap.size=w.heap.size+1:=by rw[<-NK];simp
 have N6:WB.heap.size=w.heap.size+1+1:=by rw[<-Sj];simp[hz]
 have hS:LS w0 w sb bl nn mm es put cf Z9 ⟨ho.toArray⟩ po ⟨pa.toArray⟩ ⟨qu.toArray⟩ uq (dP ⟨#[]⟩ ⟨#[]⟩ false false) W0:=⟨by rw[Yj.block _ (by omega),RQ.block _ (by omega),<-NK,<-Pn];exact ay w _ _ rfl,gu.below (by rw[<-Sj,<-hz];exact ay WA _ _ rfl) Yj,by rw[<-Nb,<-N6];exact ay WB _ _ rfl,⟨hl.below (bt (bt Wm RQ) Yj),de.of_below (bt (bt Wm RQ) Yj),hw0⟩⟩
 unfold dP at Nb;obtain⟨Tn,WM,Nl,Sp⟩:=bK NK Sj Nb Pn;obtain⟨K1,K2,K3,K4⟩:=bK k1 k2 k3 k4;obtain⟨HM,HT⟩:=az hM hT;clear NK Sj Nb Pn k1 k2 k3 k4 Wm RQ Yj hz N6 hF hq PX Q8 ON hu hM hT hl Ol;obtain⟨c0,c1,c2,c3,c4,c5⟩:=hS.2.1.cells;go_enter Tryz.func169,Tryz.ntmps169
 go_upto_region 1 with(fail)
 rw[Tn.out,WM.out,Nl.out];go_wp2_with fail
 refine(K1.out _ hS.2.2.2.live.base).mono ?_;rintro e w1 ⟨rfl,M8⟩;have NH:=hS.below M8;clear K1 hS M8 c0 c1 c2 c3 c4 c5 Tn WM Nl;go_upto_region 3 with(fail)
 go_cut [] (λwx=>LS w0 w sb bl nn mm es put cf Z9 ⟨ho.toArray⟩ po ⟨pa.toArray⟩ ⟨qu.toArray⟩ uq (dP ⟨ky.toArray⟩ ⟨#[]⟩ false false) wx)
 case first=>
  obtain⟨c0,c1,c2,c3,c4,c5⟩:=NH.2.1.cells;have k2:=K2.out w1 NH.2.2.2.live.base;have H1:=ah NH;clear NH;go_wp2_with fail
  refine k2.mono ?_;rintro e w2 ⟨rfl,M9⟩;have O8:=H1.out.below M9;have q0:=(O8.at 0).1;have f0:=(O8.at 0).2;have QL:=ah O8;clear O8 k2 H1 M9;go_wp2_with fail
  go_meet;exact QL.out.set 0 _
 case rest=>
  clear NH K2;have NH:=hcut;clear hcut;go_upto_region 4 with(fail)
  go_cut [] (λwx=>LS w0 w sb bl nn mm es put cf Z9 ⟨ho.toArray⟩ po ⟨pa.toArray⟩ ⟨qu.toArray⟩ uq (dP ⟨ky.toArray⟩ ⟨#[]⟩ false false) wx)
  case first=>
   have p0:wc.cell? ⟨w.heap.size+1+1,0,none⟩=some (.string ⟨ky.toArray⟩):=(NH.at 0).1;have k3:=K3.out wc NH.2.2.2.live NH.2.2.2.kept;have H1:=ah NH;clear NH K3;go_wp2_with fail
   refine k3.mono ?_;rintro e w2 ⟨rfl,Nq,OA⟩;have O8:=H1.out.to Nq OA;have q3:w2.cell? ⟨w.heap.size+1+1,3,none⟩=some (.bool false):=(O8.at 3).1;have q4:w2.cell? ⟨w.heap.size+1+1,4,none⟩=some (.int .i64 0):=(O8.at 4).1;have q5:w2.cell? ⟨w.heap.size+1+1,5,none⟩=some (.string ⟨#[]⟩):=(O8.at 5).1;have q6:w2.cell? ⟨w.heap.size+1+1,6,none⟩=some (.int .i64 0):=(O8.at 6).1;have q7:w2.cell? ⟨w.heap.size+1+1,7,none⟩=some (.slice none 0 0):=(O8.at 7).1;have q8:w2.cell? ⟨w.heap.size+1+1,8,none⟩=some (.string ⟨#[]⟩):=(O8.at 8).1;have q9:w2.cell? ⟨w.heap.size+1+1,9,none⟩=some (.int .i64 0):=(O8.at 9).1;have q10:w2.cell? ⟨w.heap.size+1+1,10,none⟩=some (.int .i64 0):=(O8.at 10).1;have q11:w2.cell? ⟨w.heap.size+1+1,11,none⟩=some (.slice none 0 0):=(O8.at 11).1
   have f3:=(O8.at 3).2;have f4:=(O8.at 4).2;have f5:=(O8.at 5).2;have f6:=(O8.at 6).2;have f7:=(O8.at 7).2;have f8:=(O8.at 8).2;have f9:=(O8.at 9).2;have f10:=(O8.at 10).2;have f11:=(O8.at 11).2;have QL:=ah O8;clear O8 k3 H1 Nq OA p0;unfold dI;go_wp2_with fail
   go_meet;have h:=(((((((((QL.out.set 4 (.int .i64 0)).set 5 (.string ⟨#[]⟩)).set 6 (.int .i64 0)).set 7 (.slice none 0 0)).set 8 (.string ⟨#[]⟩)).set 9 (.int .i64 0)).set 10 (.int .i64 0)).set 11 (.slice none 0 0)).set 3 (.bool false));rw[CS]at h;exact h
  case rest=>
   clear NH K3;have NH:=hcut;clear hcut;go_upto_region 5 with(fail)
   go_cut [] (λwx=>LS w0 w sb bl nn mm es put cf Z9 ⟨ho.toArray⟩ po ⟨pa.toArray⟩ ⟨qu.toArray⟩ uq (dP ⟨ky.toArray⟩ ⟨#[]⟩ false false) wx)
   case first=>
    have q3:wc.cell? ⟨w.heap.size+1+1,3,none⟩=some (.bool false):=(NH.at 3).1;have q2:wc.cell? ⟨w.heap.size+1+1,2,none⟩=some (.bool false):=(NH.at 2).1;have f2:=(NH.at 2).2;have H1:=ah NH;clear NH;go_wp2_with fail
    go_meet;have h:=H1.out.set 2 (.bool false);rw[FJ]at h;exact h
   case rest=>
    clear NH;have NH:=hcut;clear hcut;have q3:wc.cell? ⟨w.heap.size+1+1,3,none⟩=some (.bool false):=(NH.at 3).1;have q2:wc.cell? ⟨w.heap.size+1+1,2,none⟩=some (.bool false):=(NH.at 2).1;go_upto_region 11 with(fail)
    go_cut [] (λwx=>LS w0 w sb bl nn mm es put cf Z9 ⟨ho.toArray⟩ po ⟨pa.toArray⟩ ⟨qu.toArray⟩ uq (dP ⟨ky.toArray⟩ ⟨ft.toArray⟩ false false) wx)
    case first=>
     obtain⟨c0,c1,c2,c3,c4,c5⟩:=NH.2.1.cells;have d0:wc.cell? ⟨w.heap.size,0,none⟩=some (.string ⟨host.toArray⟩):=by rw[(ab NH.1 0).1,<-Sp.out];rfl
     have d1:wc.cell? ⟨w.heap.size,1,none⟩=some (.int .i64 en):=by rw[(ab NH.1 1).1,<-Sp.out];rfl
     have d2:wc.cell? ⟨w.heap.size,2,none⟩=some (.int .i64 V_):=by rw[(ab NH.1 2).1,<-Sp.out];rfl
     have d3:wc.cell? ⟨w.heap.size,3,none⟩=some (.int .i64 inc):=by rw[(ab NH.1 3).1,<-Sp.out];rfl
     have d4:wc.cell? ⟨w.heap.size,4,none⟩=some (.int .i64 dep):=by rw[(ab NH.1 4).1,<-Sp.out];rfl
     have d5:wc.cell? ⟨w.heap.size,5,none⟩=some (.string ⟨dev.toArray⟩):=by rw[(ab NH.1 5).1,<-Sp.out];rfl
     have d6:wc.cell? ⟨w.heap.size,6,none⟩=some (.slice A fwd.length c):=by rw[(ab NH.1 6).1,<-Sp.out];rfl
     have k4:=K4.out wc NH.2.2.2.live.base NH.2.2.2.kept;obtain⟨H1,KK⟩:=az NH k4;clear NH K4 k4;go_wp2_with fail
     refine KK.out.mono ?_;rintro e w2 ⟨rfl,M9⟩;have O8:=H1.out.below M9;have g1:=(O8.at 1).2;have g0:w2.cell? ⟨w.heap.size+1+1,1,none⟩=some (.string ⟨#[]⟩):=(O8.at 1).1;have QL:=ah O8;clear O8 KK H1 M9 d0 d1 d2 d3 d4 d5 d6 c0 c1 c2 c3 c4 c5;go_wp2_with fail
     go_meet;have h:=QL.out.set 1 (.string ⟨ft.toArray⟩);rw[E8]at h;exact h
    case rest=>
     clear NH q2 q3 K4;have NH:=hcut;clear hcut
     have q0:wc.cell? ⟨w.heap.size+1+1,0,none⟩=some (.string ⟨ky.toArray⟩):=(NH.at 0).1;have q1:wc.cell? ⟨w.heap.size+1+1,1,none⟩=some (.string ⟨ft.toArray⟩):=(NH.at 1).1;have q2:wc.cell? ⟨w.heap.size+1+1,2,none⟩=some (.bool false):=(NH.at 2).1;have q3:wc.cell? ⟨w.heap.size+1+1,3,none⟩=some (.bool false):=(NH.at 3).1;have q4:wc.cell? ⟨w.heap.size+1+1,4,none⟩=some (.int .i64 0):=(NH.at 4).1;have q5:wc.cell? ⟨w.heap.size+1+1,5,none⟩=some (.string ⟨#[]⟩):=(NH.at 5).1;have q6:wc.cell? ⟨w.heap.size+1+1,6,none⟩=some (.int .i64 0):=(NH.at 6).1;have q7:wc.cell? ⟨w.heap.size+1+1,7,none⟩=some (.slice none 0 0):=(NH.at 7).1;have q8:wc.cell? ⟨w.heap.size+1+1,8,none⟩=some (.string ⟨#[]⟩):=(NH.at 8).1;have q9:wc.cell? ⟨w.heap.size+1+1,9,none⟩=some (.int .i64 0):=(NH.at 9).1;have q10:wc.cell? ⟨w.heap.size+1+1,10,none⟩=some (.int .i64 0):=(NH.at 10).1;have q11:wc.cell? ⟨w.heap.size+1+1,11,none⟩=some (.slice none 0 0):=(NH.at 11).1
     have f0:=(NH.at 0).2;have f1:=(NH.at 1).2;have f2:=(NH.at 2).2;have f3:=(NH.at 3).2;have f4:=(NH.at 4).2;have f5:=(NH.at 5).2;have f6:=(NH.at 6).2;have f7:=(NH.at 7).2;have f8:=(NH.at 8).2;have f9:=(NH.at 9).2;have f10:=(NH.at 10).2;have f11:=(NH.at 11).2;have H1:=ah NH;clear NH;go_wp2_with fail
     have h1:=H1.out;have h:=((((((((((((h1.set 0 (.string ⟨ky.toArray⟩)).set 1 (.string ⟨ft.toArray⟩)).set 2 (.bool false)).set 3 (.bool false)).set 4 (.int .i64 0)).set 5 (.string ⟨#[]⟩)).set 6 (.int .i64 0)).set 7 (.slice none 0 0)).set 8 (.string ⟨#[]⟩)).set 9 (.int .i64 0)).set 10 (.int .i64 0)).set 11 (.slice none 0 0));rw[D8]at h;refine bodyPost_ret_by (v:=.tuple #[uG ⟨ky.toArray⟩ ⟨ft.toArray⟩ false false,.int .i64 0]) ?_ rfl ⟨rfl,h.2.2.2.live,h.2.2.2.kept⟩;have b0:=(h.at 0).1;have b1:=(h.at 1).1;have b2:=(h.at 2).1;have b3:=(h.at 3).1;have b4:=(h.at 4).1;have b5:=(h.at 5).1;have b6:=(h.at 6).1;have b7:=(h.at 7).1;have b8:=(h.at 8).1;have b9:=(h.at 9).1;have b10:=(h.at 10).1;have b11:=(h.at 11).1;unfold dP at b0 b1 b2 b3 b4 b5 b6 b7 b8 b9 b10 b11;simp only[cT,cS,cv]at b0 b1 b2 b3 b4 b5 b6 b7 b8 b9 b10 b11
     unfold uG dP;simp[results,Tryz.results169,go_sem,b0,b1,b2,b3,b4,b5,b6,b7,b8,b9,b10,b11]
theorem Iy(M:Nat)(acc:List (List UInt8))(p:List UInt8)(ha:∀l∈acc,l.length<=M)(hp:p.length<=M):∀l∈fZ acc p,l.length<=M:=by
 unfold fZ
 cases(be (ai p)&&!acc.contains (ai p))
 ·exact ha
 ·intro l hl;rcases eB.1 hl with h|h
  ·exact ha l h
  ·rw[cA.1 h,d_];exact hp
theorem uQ(M:Nat):∀(ps acc:List (List UInt8)),(∀l∈acc,l.length<=M)->(∀p∈ps,p.length<=M)->∀l∈ps.foldl fZ acc,l.length<=M
 | [],_,ha,_=>ha
 |p::r,acc,ha,hp=>uQ M r (fZ acc p) (Iy M acc p ha (hp p (by simp))) (λq hq=>hp q (by simp[hq]))
theorem uW(M:Nat):∀(vs acc:List (List UInt8)),(∀l∈acc,l.length<=M)->(∀v∈vs,v.length<=M)->∀l∈kK acc vs,l.length<=M
 | [],_,ha,_=>ha
 |v::r,acc,ha,hv=>uW M r (Gh acc v) (uQ M _ acc ha (λp hp=>by have h1:=cG hp;have h2:=ci 44 v;have h3:=hv v (by simp);omega)) (λq hq=>hv q (by simp[hq]))
theorem IL(xs:List aU)(hs:aE xs<=1000000):∀l∈jf xs,l.length<=1000000:=by have hvt:=ik xs mK;exact uW 1000000 _ jV (by decide) (λv hv=>by have:=cG hv;omega)
theorem Jl(xs:List aU):(jf xs).length<=9+64*xs.length:=by have h1:=tA (af xs mK) jV;have h2:=cD xs mK;have h3:jV.length=9:=rfl;unfold jf;omega
theorem vp(A:Option Addr)(n c:Nat)(xs:List aU)(w:World)(hr:Rd A n 2 (aJ xs) w)(hn:n<=10000)(hs:aE xs<=1000000):Calls Tryz.prog 15 #[.slice A n c] w (eT w (dc xs)):=by
 have QV:=hr.fld;have k1:=Do A n c xs w hr hn hs;have hl:=Jl xs;have k2:=λ(a:Option Addr)(c':Nat)W(hb:Below w.heap.size w W)h=>xG A n c xs a (jf xs).length c' (jf xs) W (hr.below hb) (by omega) (λf hf=>by have:=bM hf;omega) h (by omega) (IL xs hs)
 have hc:dL xs (jf xs)=dc xs:=rfl;rw[hc]at k2;generalize dc xs=out at*;generalize jf xs=hp at*;obtain⟨K1,K2⟩:=az k1 k2;clear k1 k2 hr hn hs hl QV hc;go_enter Tryz.func15,Tryz.ntmps15
 go_wp2_with fail
 refine K1.out.mono ?_;rintro e w1 ⟨a1,c1,rfl,Nr,M8⟩;go_wp2_with fail
 refine(K2.out _ _ _ M8 Nr.rd.2).mono ?_;rintro e w2 ⟨a2,c2,rfl,Nz,M9⟩;have NM:=ah (Nz.base (B':=w.heap.size) M8.size);clear Nz;go_wp2;go_ret;exact⟨a2,c2,rfl,NM.out,bt M8 M9⟩
def jg(nm:List UInt8):Bool:=be nm&&!(nm==[42])
def kZ(acc:List (List UInt8))(nm:List UInt8):List (List UInt8):=bif acc.contains nm then acc else acc++[nm]
def dA:List (List UInt8)->List (List UInt8)->Option (List (List UInt8))
 |acc,[]=>some acc
 |acc,p::r=>bif jg (ai p)then dA (kZ acc (ai p)) r else none
def eG:List (List UInt8)->List (List UInt8)->Option (List (List UInt8))
 |acc,[]=>some acc
 |acc,v::r=>bif(ax 44 v).2==0 then(match dA acc (ax 44 v).1 with|none=>none|some a=>eG a r)else none
def pj:List UInt8:=[118,97,114,121]
def bz(xs:List aU):Option (List (List UInt8)):=eG [] (af xs pj)
def dw(o:Option (List (List UInt8))):List (List UInt8):=o.getD []
theorem wX(acc:List (List UInt8))(nm:List UInt8):(kZ acc nm).length<=acc.length+1:=by unfold kZ;cases acc.contains nm<;>simp
theorem sN:∀(ps acc a:List (List UInt8)),dA acc ps=some a->a.length<=acc.length+ps.length
 | [],acc,a,h=>by cases h;simp
 |p::r,acc,a,h=>by
  rw[dA]at h
  cases hn:jg (ai p)<;>rw[hn]at h
  ·cases h
  ·have:=sN r _ a h;have:=wX acc (ai p);rw[cg];omega
theorem sV{α:Type}(xs:List α)(k:Nat)(h:k<xs.length):xs.drop k=xs[k]::xs.drop (k+1):=tu h
def m_(f:List UInt8->Int)(acc:List (List UInt8))(n:Nat):Prop:=(∀x,0<=f x/\f x<=n)/\∀x,f x=0<->acc.contains x=false
theorem m_.start:m_ (λ_=>0) [] 0:=⟨λ_=>⟨iR _,by show(0:Int)<=_;omega⟩,λx=>by simp⟩
def pg(f:List UInt8->Int)(nm:List UInt8):List UInt8->Int:=λx=>if x=nm then f nm+1 else f x
theorem m_.step{f:List UInt8->Int}{acc:List (List UInt8)}{n:Nat}(h:m_ f acc n)(nm:List UInt8):m_ (pg f nm) (kZ acc nm) (n+1):=by
 refine⟨λx=>?_,λx=>?_⟩
 ·unfold pg;have h1:=h.1 x;have h2:=h.1 nm;split
  ·constructor<;>omega
  ·constructor<;>omega
 ·unfold pg kZ;have h1:=h.1 nm;have h2:=h.2 x;have h3:=h.2 nm;by_cases e:x=nm
  ·subst e;rw[if_pos rfl]
   cases hc:acc.contains x
   ·simp;omega
   ·simp at hc
    simp[hc];omega
  ·rw[if_neg e,h2]
   cases hc:acc.contains nm
   ·simp[e]
   ·simp
theorem GZ{acc:List (List UInt8)}{nm x:List UInt8}(h:x∈kZ acc nm):x∈acc\/x=nm:=by
 unfold kZ at h
 cases hc:acc.contains nm<;>rw[hc]at h
 ·rcases eB.1 h with h|h
  ·exact Or.inl h
  ·exact Or.inr (cA.1 h)
 ·exact Or.inl h
def zn(M:Nat)(x:List UInt8):Prop:=jg x=true/\ai x=x/\x.length<=M
theorem oL(M:Nat):∀(ps acc a:List (List UInt8)),(∀p∈ps,p.length<=M)->(∀x∈acc,zn M x)->dA acc ps=some a->∀x∈a,zn M x
 | [],acc,a,_,h,e=>by cases e;exact h
 |p::r,acc,a,hp,h,e=>by
  rw[dA]at e
  cases hn:jg (ai p)<;>rw[hn]at e
  ·cases e
  ·refine oL M r _ a (λq hq=>hp q (by simp[hq])) (λx hx=>?_) e;rcases GZ hx with hx|rfl
   ·exact h x hx
   ·exact⟨hn,qB p,by rw[d_];exact hp p (by simp)⟩
theorem oP(M:Nat):∀(vs acc a:List (List UInt8)),(∀v∈vs,v.length<=M)->(∀x∈acc,zn M x)->eG acc vs=some a->∀x∈a,zn M x
 | [],acc,a,_,h,e=>by cases e;exact h
 |v::r,acc,a,hv,h,e=>by
  rw[eG]at e
  cases he:((ax 44 v).2==0)<;>rw[he]at e
  ·cases e
  ·rw[cond_true]at e
   cases hp:dA acc (ax 44 v).1 with
   |none=>rw[hp]at e;cases e
   |some b=>
    rw[hp]at e;refine oP M r b a (λq hq=>hv q (by simp[hq])) (oL M _ _ _ (λp hp'=>?_) h hp) e;exact bj (cG hp') (bj (ci 44 v) (hv v (by simp)))
theorem qk{M:Nat}{xs:List aU}{l:List (List UInt8)}(h:∀f∈xs,f.2.length<=M)(e:bz xs=some l):∀x∈l,zn M x:=by refine oP M _ _ _ (λv hv=>?_) (by simp) e;obtain⟨f,hf,e⟩:=i_ hv;rw[<-e];exact h f hf
end Go.Proofs.YtdbjnlkbhhebbaaGreatDoor
