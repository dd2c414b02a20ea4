/- Msg7, Line3, Msg8, Msg9, Wide1, UriSpec, Uri1, Uri2, Uri3, Uri4, Uri5, Range1, UriLaw, Range2. -/
import Derived.Test.YtdbjnlkbhhebbaaGreatDoorK01
import Derived.Test.YtdbjnlkbhhebbaaGreatDoorK02
import Derived.Test.YtdbjnlkbhhebbaaGreatDoorK03
import Derived.Test.YtdbjnlkbhhebbaaGreatDoorK04
import Derived.RangeFuncNested
import Derived.RangeFuncBound
import Derived.RangeFuncCalls
import Derived.RangeFuncLeaves
import Derived.RangeFuncBox
import Derived.Lib.IndexBytes
import Derived.Lib.IndexLaws
import Derived.Shelf.Abstract
import Derived.Shelf.RegionOpen
import Derived.OwnWalkIn
import Derived.TacticsInMore
import Derived.LoopNIn
import Derived.LoopIn
set_option maxRecDepth 100000
set_option maxHeartbeats 16000000
set_option linter.all false
namespace Go.Proofs.YtdbjnlkbhhebbaaGreatDoor
open Go.RowKit
open Go.RowKit Go.Shelf
theorem Rd.newS2(w:World)(ls:List (List UInt8))(T:TypeId):Rd (some ⟨w.heap.size,0,none⟩) ls.length 1 (aF ls) (w.alloc (.cells (aF ls).toArray T)):=by refine⟨by simp[aF],λ_=>⟨w.heap.size,0,rfl,by simp,λj u hu=>?_⟩⟩;rw[iq,cK];simpa using hu
theorem It(st:Int)(w:World)(h:-1000000<=st/\st<=1000000):Calls Tryz.prog 218 #[.int .i64 st] w λe w'=>e=.returned (.bool (gV st))/\w=w':=by
 have m1:IntKind.i64.wrap (st.tdiv 100)=st.tdiv 100:=by rw[b_];have:=Int.mul_tdiv_add_tmod st 100;have h2:=Int.tmod_lt_of_pos st (show(0:Int)<100 by decide);have h3:-100<st.tmod 100:=Int.lt_tmod_of_pos st (by decide);omega
 unfold gV;generalize hq:st.tdiv 100=q at*;by_cases h1:q=1
 ·subst h1;rw[show((1:Int)==1)=true from rfl,iY,iY];go_enter Tryz.func218,Tryz.ntmps218
  go_wp2;go_ret;exact⟨rfl,rfl⟩
 ·have t1:(q==1)=false:=by simp;exact h1
  rw[t1,ig];by_cases h2:st=204
  ·have t2:(st==204)=true:=by simp;exact h2
   rw[t2,iY];go_enter Tryz.func218,Tryz.ntmps218
   go_wp2;go_ret;exact⟨rfl,rfl⟩
  ·have t2:(st==204)=false:=by simp;exact h2
   rw[t2,ig];go_enter Tryz.func218,Tryz.ntmps218
   go_wp2;go_ret;exact⟨rfl,rfl⟩
theorem y_(p:aU->Bool)(xs:List aU):aE (xs.filter p)<=aE xs:=by
 induction xs with
 |nil=>exact aw _
 |cons x r ih=>
  rw[o8]
  cases p x
  ·show _<=aE (x::r)
   unfold aE at*;simp only[List.map,dG]at*;simp only[mt,if_false]at*;omega
  ·unfold aE at*;simp only[if_true,List.map,dG]at*;omega
theorem th:∀{xs:List aU},qj xs=0->aE xs<=xs.length*2048
 | [],_=>by simp[aE]
 |f::r,h=>by
  unfold qj at h
  cases hm:mO f
  ·rw[hm]at h;simp at h
  ·cases hl:g_ f
   ·rw[hm,hl]at h;have ih:=th (xs:=r) h;unfold g_ at hl;have Nq:=of_decide_eq_false hl;unfold aE at*;simp only[bw,dG,cg]at*;omega
   ·rw[hm,hl]at h;simp at h
theorem qv{xs:List aU}(h:bR xs=0):xs.length<=64/\aE xs<=131072:=by
 unfold bR at h;by_cases h6:64<xs.length
 ·rw[decide_eq_true h6]at h;simp at h
 ·rw[decide_eq_false h6]at h;have:=th h;omega
theorem yA(st:ByteArray)(A:Option Addr)(n c:Nat)(xs:List aU)(len:Int)(bo:ByteArray)(w:World)(hT:dV w)(Nd:st.size<=10000)(hr:Rd A n 2 (aJ xs) w)(hn:n<=400000)(hs:aE xs<=1100000)(hlen:-1<=len/\len<=1000000000)(O9:bo.size<=2000000):Calls Tryz.prog 47 #[.string st,.slice A n c,.int .i64 len,.string bo] w λe w'=>e=.returned (.tuple #[.string ⟨(jP st.data.toList xs len bo.data.toList).1.toArray⟩,.int .i64 (jP st.data.toList xs len bo.data.toList).2])/\Below w.heap.size w w':=by
 obtain⟨W0,Nb⟩:=bg w (.cells #[.string uY,.string Da] 9);have Nm:=bm Nb;have hN:Rd (some ⟨w.heap.size,0,none⟩) 2 1 (aF [fW,je]) W0:=by rw[<-Nb];exact Rd.newS2 w [fW,je] _
 obtain rfl:=hr.fld;have k1:=DB A xs.length c xs (some ⟨w.heap.size,0,none⟩) 2 2 [fW,je] W0 (hr.below Nm) (by omega) (λf hf=>by have:=bM hf;omega) hN (by decide) (by intro l hl;simp at hl;rcases hl with rfl|rfl<;>decide);have OX:=eU xs [fW,je];have Oc:aE (dL xs [fW,je])<=aE xs:=y_ _ xs;obtain⟨V,hV⟩:=aH (jP st.data.toList xs len bo.data.toList);rw[hV];unfold jP at hV;simp only at hV
 generalize dL xs [fW,je]=ds at*;obtain⟨K1,Nl,HV⟩:=bu k1 Nb hV;clear k1 Nb hN hV;by_cases hl:0<=len
 ·have t1:decide (len>=0)=true:=decide_eq_true hl;have hle:gU len=[(FN,Lib.itoa len)]:=by unfold gU;rw[decide_eq_true hl,cond_true]
  have Q7:(Lib.itoa len).length<=21:=bj (Lib.itoa_length_le len (by omega) (by omega)) (by decide);rw[hle]at HV;clear hle;go_enter Tryz.func47,Tryz.ntmps47
  go_wp2_with fail
  rw[Nl.out];refine K1.out.mono ?_;rintro e w1 ⟨a,cap,rfl,ho,M8⟩;clear K1 Nl;have Ni:=bt Nm M8;have k2:=oR len (by omega) (by omega) w1 (hT.on Ni);generalize Lib.itoa len=il at*;go_wp2_with fail
  refine k2.mono ?_;rintro e w2 ⟨rfl,M9⟩;clear k2;have Nz:=(ho.below M9).base Nm.size;have Nk:=bt Ni M9;have V2:=Nk.size;clear ho M8 M9 Ni t1 hl;go_wp2_with (at_builtin;refine mh w.heap.size (FN,il) Nz V2 (by omega) rfl _ _ rfl rfl rfl ?_)
  intro v3 w3 NN Na _;obtain⟨a3,Us,rfl⟩:=NN.shape;have Nu:Below w.heap.size w w3:=Nk.trans Na;have hys1:(ds++[(FN,il)]).length<=400001:=by rw[bP];simp;omega
  have hys2:aE (ds++[(FN,il)])<=1100100:=by unfold aE at*;rw[cO,List.sum_append];simp[FN];omega
  generalize ds++[(FN,il)]=ys at*;have kc:=oB a3 ys.length Us ys w3 NN.rd.2 (by omega) (by omega);by_cases Sa:bR ys=0
  ·have hv:=HV.out;rw[Sa]at kc hv;rw[show((0:Int)!=0)=false from rfl,cond_false]at hv;have ⟨hck1,hck2⟩:=qv Sa;have Oe:=so ys;have Pb:(gQ ys).length<=2000000:=by omega
   have kp:=λW h=>AP a3 ys.length Us ys W h (by omega) (by omega)
   obtain⟨pl,Tb⟩:=aH ((⟨(gQ ys).toArray⟩:ByteArray):ByteArray);have Y6:pl.data.toList=gQ ys:=by rw[<-Tb]
   have ST:pl.size<=2000000:=by rw[aY,Y6];exact Pb
   rw[Tb]at kp;rw[<-Y6]at hv;obtain⟨KP,Uj⟩:=az kp NN.rd.2;clear kp Tb Y6 Pb Oe NN Sa;obtain⟨sx,TQ⟩:=aH (((st++ij:ByteArray)++pl)++ij:ByteArray);have Wx:sx.data.toList=st.data.toList++(aK++(pl.data.toList++aK)):=by rw[<-TQ];simp[qo,aK]
   have ND:sx.size=st.size+2+pl.size+2:=by rw[<-TQ,nV,nV,nV];rfl
   rw[<-Wx,<-aY]at hv;by_cases h8:8192<sx.size
   ·rw[decide_eq_true h8,cond_true]at hv;subst hv;have t8:decide ((sx.size:Int)>8192)=true:=decide_eq_true (by omega);have Y9:=ah TQ;clear TQ Wx;go_wp2_with fail
    refine kc.mono ?_;rintro e w4 ⟨rfl,Nf⟩;have kp:=KP.out w4 (Uj.out.below Nf);go_wp2_with fail
    refine kp.mono ?_;rintro e w5 ⟨rfl,Ns⟩;clear kc kp KP Uj HV;have Oh:=(bt Nu Nf).trans (Ns.mono (bt Nu Nf).size);go_upto_region 8 with(fail)
    rw[Y9.out];go_wp2;go_ret2
    exact⟨rfl,Oh⟩
   ·rw[decide_eq_false h8,cond_false]at hv;have t8:decide ((sx.size:Int)>8192)=false:=decide_eq_false (by omega);have YM:(⟨(sx.data.toList++bo.data.toList).toArray⟩:ByteArray)=sx++bo:=by apply dE;simp[qo]
    have hsz8:sx.size<=8192:=by omega
    subst hv;obtain⟨Y9,ZG⟩:=az TQ YM;clear TQ Wx YM ND;go_wp2_with fail
    refine kc.mono ?_;rintro e w4 ⟨rfl,Nf⟩;have kp:=KP.out w4 (Uj.out.below Nf);go_wp2_with fail
    refine kp.mono ?_;rintro e w5 ⟨rfl,Ns⟩;clear kc kp KP Uj HV;have Oh:=(bt Nu Nf).trans (Ns.mono (bt Nu Nf).size);go_upto_region 8 with(fail)
    rw[Y9.out];go_wp2;go_ret2
    exact⟨by rw[ZG.out];rfl,Oh⟩
  ·have hv:=HV.out;have tk:(bR ys !=0)=true:=by simp;exact Sa
   rw[tk,cond_true]at hv;obtain⟨ck,NI⟩:=aH (bR ys);rw[NI]at hv kc tk;subst hv;clear HV NN NI Sa;go_wp2_with fail
   refine kc.mono ?_;rintro e w4 ⟨rfl,Nf⟩;have Ny:=bt Nu Nf;clear kc;go_wp2;go_ret2
   exact⟨rfl,Ny⟩
 ·have t1:decide (len>=0)=false:=decide_eq_false hl;have hle:gU len=[]:=by unfold gU;rw[decide_eq_false hl,cond_false]
  rw[hle,e9]at HV;clear hle;go_enter Tryz.func47,Tryz.ntmps47
  go_wp2_with fail
  rw[Nl.out];refine K1.out.mono ?_;rintro e w3 ⟨a3,Us,rfl,NN,M8⟩;clear K1 Nl;have Nu:=bt Nm M8;have hys1:ds.length<=400001:=by omega
  have hys2:aE ds<=1100100:=by omega
  generalize ds=ys at*;clear M8 hl;have kc:=oB a3 ys.length Us ys w3 NN.rd.2 (by omega) (by omega);by_cases Sa:bR ys=0
  ·have hv:=HV.out;rw[Sa]at kc hv;rw[show((0:Int)!=0)=false from rfl,cond_false]at hv;have ⟨hck1,hck2⟩:=qv Sa;have Oe:=so ys;have Pb:(gQ ys).length<=2000000:=by omega
   have kp:=λW h=>AP a3 ys.length Us ys W h (by omega) (by omega)
   obtain⟨pl,Tb⟩:=aH ((⟨(gQ ys).toArray⟩:ByteArray):ByteArray);have Y6:pl.data.toList=gQ ys:=by rw[<-Tb]
   have ST:pl.size<=2000000:=by rw[aY,Y6];exact Pb
   rw[Tb]at kp;rw[<-Y6]at hv;obtain⟨KP,Uj⟩:=az kp NN.rd.2;clear kp Tb Y6 Pb Oe NN Sa;obtain⟨sx,TQ⟩:=aH (((st++ij:ByteArray)++pl)++ij:ByteArray);have Wx:sx.data.toList=st.data.toList++(aK++(pl.data.toList++aK)):=by rw[<-TQ];simp[qo,aK]
   have ND:sx.size=st.size+2+pl.size+2:=by rw[<-TQ,nV,nV,nV];rfl
   rw[<-Wx,<-aY]at hv;by_cases h8:8192<sx.size
   ·rw[decide_eq_true h8,cond_true]at hv;subst hv;have t8:decide ((sx.size:Int)>8192)=true:=decide_eq_true (by omega);have Y9:=ah TQ;clear TQ Wx;go_wp2_with fail
    refine kc.mono ?_;rintro e w4 ⟨rfl,Nf⟩;have kp:=KP.out w4 (Uj.out.below Nf);go_wp2_with fail
    refine kp.mono ?_;rintro e w5 ⟨rfl,Ns⟩;clear kc kp KP Uj HV;have Oh:=(bt Nu Nf).trans (Ns.mono (bt Nu Nf).size);go_upto_region 8 with(fail)
    rw[Y9.out];go_wp2;go_ret2
    exact⟨rfl,Oh⟩
   ·rw[decide_eq_false h8,cond_false]at hv;have t8:decide ((sx.size:Int)>8192)=false:=decide_eq_false (by omega);have YM:(⟨(sx.data.toList++bo.data.toList).toArray⟩:ByteArray)=sx++bo:=by apply dE;simp[qo]
    have hsz8:sx.size<=8192:=by omega
    subst hv;obtain⟨Y9,ZG⟩:=az TQ YM;clear TQ Wx YM ND;go_wp2_with fail
    refine kc.mono ?_;rintro e w4 ⟨rfl,Nf⟩;have kp:=KP.out w4 (Uj.out.below Nf);go_wp2_with fail
    refine kp.mono ?_;rintro e w5 ⟨rfl,Ns⟩;clear kc kp KP Uj HV;have Oh:=(bt Nu Nf).trans (Ns.mono (bt Nu Nf).size);go_upto_region 8 with(fail)
    rw[Y9.out];go_wp2;go_ret2
    exact⟨by rw[ZG.out];rfl,Oh⟩
  ·have hv:=HV.out;have tk:(bR ys !=0)=true:=by simp;exact Sa
   rw[tk,cond_true]at hv;obtain⟨ck,NI⟩:=aH (bR ys);rw[NI]at hv kc tk;subst hv;clear HV NN NI Sa;go_wp2_with fail
   refine kc.mono ?_;rintro e w4 ⟨rfl,Nf⟩;have Ny:=bt Nu Nf;clear kc;go_wp2;go_ret2
   exact⟨rfl,Ny⟩
theorem zZ(st:ByteArray)(A:Option Addr)(n c:Nat)(xs:List aU)(len:Int)(bo:ByteArray)(w:World)(hT:dV w)(Nd:st.size<=10000)(hr:Rd A n 2 (aJ xs) w)(hn:n<=100000)(hs:aE xs<=900000)(hlen:-1<=len/\len<=1000000000)(O9:bo.size<=1000000):Calls Tryz.prog 47 #[.string st,.slice A n c,.int .i64 len,.string bo] w λe w'=>e=.returned (.tuple #[.string ⟨(jP st.data.toList xs len bo.data.toList).1.toArray⟩,.int .i64 (jP st.data.toList xs len bo.data.toList).2])/\Below w.heap.size w w':=yA st A n c xs len bo w hT Nd hr (by omega) (by omega) hlen (by omega)
theorem IV(me pa:ByteArray)(mi:Int)(w:World)(ht:dV w)(hm:me.size<=140737488351232)(hp:pa.size<=140737488351232)(hi:0<=mi/\mi<=1):Calls Tryz.prog 46 #[.string me,.string pa,.int .i64 mi] w λe w'=>e=.returned (zG (cy me.data.toList pa.data.toList mi))/\Below w.heap.size w w':=by
 have k1:=λw=>lT me w hm
 have k2:=λw=>qh ⟨#[33,126]⟩ pa 1 w rfl (by omega) hp
 have k3:=λw h=>oR mi (by omega) (by omega) w h
 have Tb:pa.data.toList.isEmpty=(pa.toList==[]):=by rw[dY];cases pa.data.toList<;>rfl
 obtain⟨OY,hT⟩:=aH (cy me.data.toList pa.data.toList mi);rw[hT];unfold cy at hT;simp only at hT
 rw[<-aY]at hT;have hx:((((me++gY:ByteArray)++pa)++⟨#[32,72,84,84,80,47,49,46]⟩:ByteArray)++⟨(Lib.itoa mi).toArray⟩:ByteArray).data.toList=me.data.toList++([32]++(pa.data.toList++([32]++(fO++Lib.itoa mi)))):=by simp[fO]
 rw[<-hx]at hT;have k4:=λb w=>yY mi b ((((me++gY:ByteArray)++pa)++⟨#[32,72,84,84,80,47,49,46]⟩:ByteArray)++⟨(Lib.itoa mi).toArray⟩:ByteArray) w
 rw[show(⟨#[33,126]⟩:ByteArray).data.toList=fv from rfl]at k2;have him:=Lib.itoa_length_le mi (by omega) (by omega);clear hx;generalize be me.data.toList=tk at*;generalize aZ fv pa.data.toList=hl at*;rw[Tb]at hT;clear Tb;generalize Lib.itoa mi=im at*;have ND:(⟨im.toArray⟩:ByteArray).size<=21:=by rw[aY];simpa using him
 unfold zG at k4 ⊢;obtain⟨K1,K2,K3,K4,HT⟩:=gB k1 k2 k3 k4 hT;clear k1 k2 k3 k4 hT;have hB:=aO w.heap.size w
 cases tk
 ·obtain⟨pz,ST⟩:=aH (pa.toList==[]);go_enter Tryz.func46,Tryz.ntmps46
  go_wp2_with fail
  refine(K1.out _).mono ?_;rintro e w1 ⟨rfl,rfl⟩;go_wp2_with fail
  refine(K3.out _ ht).mono ?_;rintro e w3 ⟨rfl,Na⟩;go_wp2_with fail
  refine(K4.out _ _).mono ?_;rintro e w4 ⟨rfl,rfl⟩;have hT:=HT.out;simp only[di,iC,ig,mU,iY,ST]at hT;have U6:=Na;clear HT K1 K2 K3 K4;generalize iu mi _ _=d at*;obtain⟨d1,d2⟩:=d;simp only at hT ⊢
  cases hd:(d2==0)
  ·rw[hd,gN,cond_false]at hT;subst hT;go_wp2;go_ret2
   exact⟨rfl,U6⟩
  ·rw[hd,eJ]at hT
   cases Nq:decide (1024<pa.size)
   ·have t1:decide ((pa.size:Int)>1024)=false:=by simp at Nq ⊢;omega
    rw[Nq,cond_false]at hT;subst hT;go_wp2;go_ret2
    exact⟨rfl,U6⟩
   ·have t1:decide ((pa.size:Int)>1024)=true:=by simp at Nq ⊢;omega
    rw[Nq,cond_true]at hT;subst hT;go_wp2;go_ret2
    exact⟨rfl,U6⟩
 ·cases ST:(pa.toList==[])
  ·go_enter Tryz.func46,Tryz.ntmps46
   go_wp2_with fail
   refine(K1.out _).mono ?_;rintro e w1 ⟨rfl,rfl⟩;go_wp2_with fail
   refine(K2.out _).mono ?_;rintro e w2 ⟨rfl,M9⟩;go_wp2_with fail
   refine(K3.out _ (ht.on M9)).mono ?_;rintro e w3 ⟨rfl,Na⟩;go_wp2_with fail
   refine(K4.out _ _).mono ?_;rintro e w4 ⟨rfl,rfl⟩;have hT:=HT.out;simp only[di,iC,ig,mU,iY,ST]at hT;have U6:=bt M9 Na;clear HT K1 K2 K3 K4;generalize iu mi _ _=d at*;obtain⟨d1,d2⟩:=d;simp only at hT ⊢
   cases hd:(d2==0)
   ·rw[hd,gN,cond_false]at hT;subst hT;go_wp2;go_ret2
    exact⟨rfl,U6⟩
   ·rw[hd,eJ]at hT
    cases Nq:decide (1024<pa.size)
    ·have t1:decide ((pa.size:Int)>1024)=false:=by simp at Nq ⊢;omega
     rw[Nq,cond_false]at hT;subst hT;go_wp2;go_ret2
     exact⟨rfl,U6⟩
    ·have t1:decide ((pa.size:Int)>1024)=true:=by simp at Nq ⊢;omega
     rw[Nq,cond_true]at hT;subst hT;go_wp2;go_ret2
     exact⟨rfl,U6⟩
  ·go_enter Tryz.func46,Tryz.ntmps46
   go_wp2_with fail
   refine(K1.out _).mono ?_;rintro e w1 ⟨rfl,rfl⟩;go_wp2_with fail
   refine(K3.out _ ht).mono ?_;rintro e w3 ⟨rfl,Na⟩;go_wp2_with fail
   refine(K4.out _ _).mono ?_;rintro e w4 ⟨rfl,rfl⟩;have hT:=HT.out;simp only[di,iC,ig,mU,iY,ST]at hT;have U6:=Na;clear HT K1 K2 K3 K4;generalize iu mi _ _=d at*;obtain⟨d1,d2⟩:=d;simp only at hT ⊢
   cases hd:(d2==0)
   ·rw[hd,gN,cond_false]at hT;subst hT;go_wp2;go_ret2
    exact⟨rfl,U6⟩
   ·rw[hd,eJ]at hT
    cases Nq:decide (1024<pa.size)
    ·have t1:decide ((pa.size:Int)>1024)=false:=by simp at Nq ⊢;omega
     rw[Nq,cond_false]at hT;subst hT;go_wp2;go_ret2
     exact⟨rfl,U6⟩
    ·have t1:decide ((pa.size:Int)>1024)=true:=by simp at Nq ⊢;omega
     rw[Nq,cond_true]at hT;subst hT;go_wp2;go_ret2
     exact⟨rfl,U6⟩
theorem Ep(st:Int)(wo:ByteArray)(mi:Int)(w:World)(ht:dV w)(hw:wo.size<=140737488351232)(hs:-1000000<=st/\st<=1000000)(hi:0<=mi/\mi<=1):Calls Tryz.prog 217 #[.int .i64 st,.string wo,.int .i64 mi] w λe w'=>e=.returned (zG (ee st wo.data.toList mi))/\Below w.heap.size w w':=by
 have k2:=λw=>qh C_ wo 3 w rfl (by omega) hw
 have k3:=λw h=>oR mi (by omega) (by omega) w h
 have k5:=λw h=>oR st (by omega) (by omega) w h
 have him:=Lib.itoa_length_le mi (by omega) (by omega);have his:=Lib.itoa_length_le st (by omega) (by omega);unfold ee;have hx:(((((GH++⟨(Lib.itoa mi).toArray⟩:ByteArray)++gY:ByteArray)++⟨(Lib.itoa st).toArray⟩:ByteArray)++gY:ByteArray)++wo:ByteArray).data.toList=fO++(Lib.itoa mi++([32]++(Lib.itoa st++([32]++wo.data.toList)))):=by simp[fO]
 rw[<-hx];clear hx;have k4:=λb w=>yY mi b (((((GH++⟨(Lib.itoa mi).toArray⟩:ByteArray)++gY:ByteArray)++⟨(Lib.itoa st).toArray⟩:ByteArray)++gY:ByteArray)++wo:ByteArray) w
 rw[show(C_:ByteArray).data.toList=iO from rfl]at k2;generalize aZ iO wo.data.toList=hl at*;generalize Lib.itoa mi=im at*;generalize Lib.itoa st=is at*;have NZ:(⟨im.toArray⟩:ByteArray).size<=21:=by rw[aY];simpa using him
 have N6:(⟨is.toArray⟩:ByteArray).size<=21:=by rw[aY];simpa using his
 unfold zG at k4 ⊢;obtain⟨S,hS⟩:=aH (((((GH++⟨im.toArray⟩:ByteArray)++gY:ByteArray)++⟨is.toArray⟩:ByteArray)++gY:ByteArray)++wo:ByteArray);rw[hS];obtain⟨OY,hT⟩:=aH (iu mi (decide (st<100)||decide (599<st)||!hl) S.data.toList);rw[hT];have k4':=λb=>k4 b
 simp only[hS]at k4';obtain⟨HS,HT,K4⟩:=bu hS hT k4';clear hS hT k4 k4';obtain⟨K2,K3,K5⟩:=bu k2 k3 k5;clear k2 k3 k5;have q2:decide (st>599)=decide (599<st):=rfl
 cases h1:decide (st<100)
 ·cases h2:decide (599<st)
  ·rw[h2]at q2;go_enter Tryz.func217,Tryz.ntmps217
   go_wp2_with fail
   refine(K2.out _).mono ?_;rintro e w2 ⟨rfl,M9⟩;go_wp2_with fail
   refine(K3.out _ (ht.on M9)).mono ?_;rintro e w3 ⟨rfl,Na⟩;go_wp2_with fail
   refine(K5.out _ (ht.on (bt M9 Na))).mono ?_;rintro e w5 ⟨rfl,Ns⟩;go_wp2_with fail
   rw[HS.out];refine(K4.out _ _).mono ?_;rintro e w4 ⟨rfl,rfl⟩;have hT:iu mi (!hl) S.data.toList=OY:=by have h:=HT.out;simp only[h1,h2,ig,iY,Bool.or_true]at h;exact h
   rw[hT];go_wp2;go_ret2
   exact⟨rfl,bt (bt M9 Na) Ns⟩
  ·rw[h2]at q2;go_enter Tryz.func217,Tryz.ntmps217
   go_wp2_with fail
   refine(K3.out _ ht).mono ?_;rintro e w3 ⟨rfl,Na⟩;go_wp2_with fail
   refine(K5.out _ (ht.on Na)).mono ?_;rintro e w5 ⟨rfl,Ns⟩;go_wp2_with fail
   rw[HS.out];refine(K4.out _ _).mono ?_;rintro e w4 ⟨rfl,rfl⟩;have hT:iu mi true S.data.toList=OY:=by have h:=HT.out;simp only[h1,h2,ig,iY,Bool.or_true]at h;exact h
   rw[hT];go_wp2;go_ret2
   exact⟨rfl,bt Na Ns⟩
 ·go_enter Tryz.func217,Tryz.ntmps217
  go_wp2_with fail
  refine(K3.out _ ht).mono ?_;rintro e w3 ⟨rfl,Na⟩;go_wp2_with fail
  refine(K5.out _ (ht.on Na)).mono ?_;rintro e w5 ⟨rfl,Ns⟩;go_wp2_with fail
  rw[HS.out];refine(K4.out _ _).mono ?_;rintro e w4 ⟨rfl,rfl⟩;have hT:iu mi true S.data.toList=OY:=by have h:=HT.out;simp only[h1,ig,iY,Bool.or_true]at h;exact h
  rw[hT];go_wp2;go_ret2
  exact⟨rfl,bt Na Ns⟩
theorem wZ(st:Int)(rs:List UInt8)(mi:Int):(ee st rs mi).2=0->(ee st rs mi).1.length<=2048:=by
 unfold ee iu;generalize (fO++(Lib.itoa mi++([32]++(Lib.itoa st++([32]++rs)))))=s;intro h
 cases hb:((decide (st<100)||decide (599<st)||!aZ iO rs)||decide (mi<0)||decide (1<mi))
 ·rw[hb,cond_false]at h;rw[cond_false];by_cases h8:2048<s.length
  ·rw[decide_eq_true h8,cond_true]at h;cases h
  ·rw[decide_eq_false h8,cond_false];show s.length<=_;omega
 ·rw[cond_true];exact a_ _
theorem yu(R:lu)(A:Option Addr)(c:Nat)(hd:Bool)(w:World)(hT:dV w)(hr:Rd A R.fields.length 2 (aJ R.fields) w)(hn:R.fields.length<=100000)(hs:aE R.fields<=900000)(Nd:0<=R.status/\R.status<=1000000)(Yc:0<=R.minor/\R.minor<=1)(PC:R.reason.length<=9000)(O9:R.body.length<=1000000):Calls Tryz.prog 167 #[iv R A c,.bool hd] w λe w'=>e=.returned (.tuple #[.string ⟨(co R hd).1.toArray⟩,.int .i64 (co R hd).2])/\Below w.heap.size w w':=by
 obtain⟨V,hV⟩:=aH (co R hd);rw[hV];obtain⟨st,rs,mi,fs,bo⟩:=R;unfold co at hV;unfold iv;simp only at*
 obtain⟨W0,Nb⟩:=bg w (.cells #[.int .i64 st,.string ⟨rs.toArray⟩,.int .i64 mi,.slice A fs.length c,.string ⟨bo.toArray⟩] 41);have Nm:=bm Nb;have hH:=dU Nb;have Nc:=ae hH
 have cell:∀W,Below W0.heap.size W0 W->W.cell? ⟨w.heap.size,0,none⟩=some (.int .i64 st)/\W.cell? ⟨w.heap.size,3,none⟩=some (.slice A fs.length c)/\W.cell? ⟨w.heap.size,4,none⟩=some (.string ⟨bo.toArray⟩):=λW hb=>by have h:=(hb.block _ Nc).trans hH;exact⟨(ab h 0).1,(ab h 3).1,(ab h 4).1⟩
 have c0:=aS hH 0;have c1:=aS hH 1;have c2:=aS hH 2;have k1:=Ep st ⟨rs.toArray⟩ mi W0 (hT.on Nm) (by rw[aR];omega) (by omega) Yc;rw[bq]at k1;have Rg:=wZ st rs mi;have kb:=λW=>It st W (by omega)
 have N9:(⟨bo.toArray⟩:ByteArray).size=bo.length:=aR bo;generalize ee st rs mi=L at*;obtain⟨sl,se⟩:=L;unfold zG at k1;simp only at k1 hV Rg
 obtain⟨K1,Nl,HC⟩:=bu k1 Nb cell;clear k1 Nb cell hH;by_cases Ug:se=0
 ·subst Ug;rw[show((0:Int)!=0)=false from rfl,cond_false]at hV;have Rg:=Rg rfl;have kp:=λlen b W(hb:Below w.heap.size w W)hl Xe=>zZ ⟨sl.toArray⟩ A fs.length c fs len b W (hT.on hb) (by rw[aR];omega) (hr.below hb) hn hs hl Xe
  simp only[bq]at kp;have KP:=ah kp;clear kp
  cases Oy:gV st
  ·rw[Oy]at kb hV;rw[gN,cond_false,cond_false]at hV;have KB:=ah kb;clear kb;by_cases RB:262144<bo.length
   ·rw[decide_eq_true RB,cond_true]at hV;subst hV;have t1:decide ((bo.length:Int)>262144)=true:=decide_eq_true (by omega);go_enter Tryz.func167,Tryz.ntmps167
    go_upto_region 1 with(fail)
    rw[Nl.out];go_wp2_with fail
    refine K1.out.mono ?_;rintro e w1 ⟨rfl,M8⟩;obtain⟨d0,d3,d4⟩:=HC.out _ M8;have Ni:=bt Nm M8;clear K1 HC Nl KP;go_wp2_with fail
    refine(KB.out _).mono ?_;rintro e w2 ⟨rfl,rfl⟩;go_wp2;go_ret2
    exact⟨rfl,Ni⟩
   ·rw[decide_eq_false RB,cond_false]at hV;have t1:decide ((bo.length:Int)>262144)=false:=decide_eq_false (by omega);have ke:=λW hb=>KP.out (bo.length:Int) ⟨(bif hd then []else bo).toArray⟩ W hb (by omega) (by cases hd<;>rw[aR]<;>simp;omega)
    rw[bq,hV]at ke;have KE:=ah ke;clear ke KP
    cases hd
    ·simp only[cond_false]at KE;go_enter Tryz.func167,Tryz.ntmps167
     go_upto_region 1 with(fail)
     rw[Nl.out];go_wp2_with fail
     refine K1.out.mono ?_;rintro e w1 ⟨rfl,M8⟩;obtain⟨d0,d3,d4⟩:=HC.out _ M8;have Ni:=bt Nm M8;clear K1 HC Nl;go_wp2_with fail
     refine(KB.out _).mono ?_;rintro e w2 ⟨rfl,rfl⟩;go_wp2_with fail
     refine(KB.out _).mono ?_;rintro e w2 ⟨rfl,rfl⟩;go_wp2_with fail
     refine(KE.out _ Ni).mono ?_;rintro e w3 ⟨rfl,Na⟩;go_wp2;go_ret2
     exact⟨rfl,bt Ni Na⟩
    ·simp only[cond_true]at KE;go_enter Tryz.func167,Tryz.ntmps167
     go_upto_region 1 with(fail)
     rw[Nl.out];go_wp2_with fail
     refine K1.out.mono ?_;rintro e w1 ⟨rfl,M8⟩;obtain⟨d0,d3,d4⟩:=HC.out _ M8;have Ni:=bt Nm M8;clear K1 HC Nl;go_wp2_with fail
     refine(KB.out _).mono ?_;rintro e w2 ⟨rfl,rfl⟩;go_wp2_with fail
     refine(KB.out _).mono ?_;rintro e w2 ⟨rfl,rfl⟩;go_wp2_with fail
     refine(KE.out _ Ni).mono ?_;rintro e w3 ⟨rfl,Na⟩;go_wp2;go_ret2
     exact⟨rfl,bt Ni Na⟩
  ·rw[Oy]at kb hV;rw[eJ,cond_true]at hV;have KB:=ah kb;clear kb
   cases bo with
   |cons x r=>
    rw[List.isEmpty_cons,iC,cond_true]at hV;subst hV;clear KP;go_enter Tryz.func167,Tryz.ntmps167
    go_upto_region 1 with(fail)
    rw[Nl.out];go_wp2_with fail
    refine K1.out.mono ?_;rintro e w1 ⟨rfl,M8⟩;obtain⟨d0,d3,d4⟩:=HC.out _ M8;have Ni:=bt Nm M8;clear K1 HC Nl;go_wp2_with fail
    refine(KB.out _).mono ?_;rintro e w2 ⟨rfl,rfl⟩;go_wp2;go_ret2
    exact⟨rfl,Ni⟩
   |nil=>
    rw[List.isEmpty_nil,di,cond_false,show decide (262144<([]:List UInt8).length)=false from rfl,cond_false]at hV;have ke:=λW hb=>KP.out (-1) ⟨#[]⟩ W hb (by omega) (by decide)
    rw[show(⟨#[]⟩:ByteArray).data.toList=[]from rfl]at ke;rw[show(bif hd then []else([]:List UInt8))=[]from by cases hd<;>rfl]at hV;rw[hV]at ke;have KE:=ah ke;clear ke KP
    cases hd
    ·go_enter Tryz.func167,Tryz.ntmps167
     go_upto_region 1 with(fail)
     rw[Nl.out];go_wp2_with fail
     refine K1.out.mono ?_;rintro e w1 ⟨rfl,M8⟩;obtain⟨d0,d3,d4⟩:=HC.out _ M8;have Ni:=bt Nm M8;clear K1 HC Nl;go_wp2_with fail
     refine(KB.out _).mono ?_;rintro e w2 ⟨rfl,rfl⟩;go_wp2_with fail
     refine(KB.out _).mono ?_;rintro e w2 ⟨rfl,rfl⟩;go_wp2_with fail
     refine(KE.out _ Ni).mono ?_;rintro e w3 ⟨rfl,Na⟩;go_wp2;go_ret2
     exact⟨rfl,bt Ni Na⟩
    ·go_enter Tryz.func167,Tryz.ntmps167
     go_upto_region 1 with(fail)
     rw[Nl.out];go_wp2_with fail
     refine K1.out.mono ?_;rintro e w1 ⟨rfl,M8⟩;obtain⟨d0,d3,d4⟩:=HC.out _ M8;have Ni:=bt Nm M8;clear K1 HC Nl;go_wp2_with fail
     refine(KB.out _).mono ?_;rintro e w2 ⟨rfl,rfl⟩;go_wp2_with fail
     refine(KB.out _).mono ?_;rintro e w2 ⟨rfl,rfl⟩;go_wp2_with fail
     refine(KE.out _ Ni).mono ?_;rintro e w3 ⟨rfl,Na⟩;go_wp2;go_ret2
     exact⟨rfl,bt Ni Na⟩
 ·have tn:(se !=0)=true:=by simp;exact Ug
  rw[tn,cond_true]at hV;subst hV;go_enter Tryz.func167,Tryz.ntmps167
  go_upto_region 1 with(fail)
  rw[Nl.out];go_wp2_with fail
  refine K1.out.mono ?_;rintro e w1 ⟨rfl,M8⟩;have Ni:=bt Nm M8;clear K1 HC Nl;go_wp2;go_ret2
  exact⟨rfl,Ni⟩
theorem zj(me tg:List UInt8)(mi:Int):(cy me tg mi).2=0->(cy me tg mi).1.length<=2048:=by
 unfold cy iu;simp only
 generalize (me++([32]++(tg++([32]++(fO++Lib.itoa mi)))))=s;intro h
 cases hb:((!be me||tg.isEmpty||!aZ fv tg)||decide (mi<0)||decide (1<mi))
 ·rw[hb]at h;simp only[cond_false]at h ⊢;by_cases h8:2048<s.length
  ·rw[decide_eq_true h8]at h ⊢;simp only[cond_true]at h ⊢;cases h
  ·rw[decide_eq_false h8]at h ⊢;simp only[cond_false,beq_self_eq_true,eJ]at h ⊢
   cases hd:decide (1024<tg.length)
   ·simp only[cond_false];omega
   ·rw[hd]at h;cases h
 ·rw[hb]at h;cases h
theorem qO(me tg:ByteArray)(mi:Int)(A:Option Addr)(n c:Nat)(w:World)(hT:dV w)(Sm:me.size<=1000000)(Vx:tg.size<=140737488351232)(Yc:0<=mi/\mi<=1)(hp:mn.contains me.data.toList=false)(P:List UInt8->ByteArray->Int->Prop)(Tu:∀(sl:ByteArray)(W:World),Below w.heap.size w W->sl.size<=2048->Calls Tryz.prog 47 #[.string sl,.slice A n c,.int .i64 (-1),.string ⟨#[]⟩] W λe w'=>(∃x er,e=.returned (.tuple #[.string x,.int .i64 er])/\P sl.data.toList x er)/\Below W.heap.size W w'):Calls Tryz.prog 22 #[.agg #[.string me,.string tg,.int .i64 mi,.slice A n c,.string ⟨#[]⟩]] w λe w'=>(∃x er,e=.returned (.tuple #[.string x,.int .i64 er])/\(((cy me.data.toList tg.data.toList mi).2≠0/\x=⟨#[]⟩/\er=(cy me.data.toList tg.data.toList mi).2)\/((cy me.data.toList tg.data.toList mi).2=0/\P (cy me.data.toList tg.data.toList mi).1 x er)))/\Below w.heap.size w w':=by
 obtain⟨W0,Nb⟩:=bg w (.cells #[.string me,.string tg,.int .i64 mi,.slice A n c,.string ⟨#[]⟩] 74);have Nm:=bm Nb;have hH:=dU Nb;have Nc:=ae hH
 have cell:∀W,Below W0.heap.size W0 W->W.cell? ⟨w.heap.size,0,none⟩=some (.string me)/\W.cell? ⟨w.heap.size,3,none⟩=some (.slice A n c)/\W.cell? ⟨w.heap.size,4,none⟩=some (.string ⟨#[]⟩):=λW hb=>by have h:=(hb.block _ Nc).trans hH;exact⟨(ab h 0).1,(ab h 3).1,(ab h 4).1⟩
 have c0:=aS hH 0;have c1:=aS hH 1;have c2:=aS hH 2;have k1:=IV me tg mi W0 (hT.on Nm) (by omega) Vx Yc;have Rg:=zj me.data.toList tg.data.toList mi
 have kc:∀W:World,Calls Tryz.prog 42 #[.slice (some ⟨W.heap.size,0,none⟩) 3 3,.string me] (W.alloc (.cells #[.string ⟨#[80,79,83,84]⟩,.string ⟨#[80,85,84]⟩,.string C0] 9)) λe w'=>e=.returned (.bool false)/\W.alloc (.cells #[.string ⟨#[80,79,83,84]⟩,.string ⟨#[80,85,84]⟩,.string C0] 9)=w':=λW=>by have h:=oJ (some ⟨W.heap.size,0,none⟩) 3 3 mn me.data.toList (W.alloc (.cells #[.string ⟨#[80,79,83,84]⟩,.string ⟨#[80,85,84]⟩,.string C0] 9)) (Rd.newS2 W mn _) (by decide);rw[hp,bN]at h;exact h
 generalize cy me.data.toList tg.data.toList mi=L at*;obtain⟨sl,se⟩:=L;unfold zG at k1;simp only at k1 Rg ⊢
 obtain⟨K1,Nl,HC,KC,KP⟩:=gB k1 Nb cell kc Tu;clear k1 Nb cell hH kc Tu hp;by_cases Ug:se=0
 ·subst Ug;have Rg:=Rg rfl;have kp:=λW hb=>KP.out ⟨sl.toArray⟩ W hb (by rw[aR];exact Rg)
  rw[bq]at kp;have KQ:=ah kp;clear kp KP;go_enter Tryz.func22,Tryz.ntmps22
  go_upto_region 1 with(fail)
  rw[Nl.out];go_wp2_with fail
  refine K1.out.mono ?_;rintro e w1 ⟨rfl,M8⟩;obtain⟨d0,d3,d4⟩:=HC.out _ M8;have Ni:=bt Nm M8;have Xd:Below w1.heap.size w1 (w1.alloc (.cells #[.string ⟨#[80,79,83,84]⟩,.string ⟨#[80,85,84]⟩,.string C0] 9)):=(aO _ w1).alloc (aw _) _;obtain⟨f0,f3,f4⟩:=HC.out _ (bt M8 Xd);have Nk:=bt Ni Xd;have kc:=KC.out w1;have kp:=KQ.out _ Nk;clear K1 HC KC KQ;go_wp2_with fail
  refine kc.mono ?_;rintro e w2 ⟨rfl,rfl⟩;clear kc;go_wp2_with fail
  refine kp.mono ?_;rintro e w3 ⟨⟨x,er,rfl,hP⟩,Na⟩;have HP:=ah hP;clear kp hP;go_wp2;go_ret2
  exact⟨⟨x,er,rfl,Or.inr ⟨by first|rfl|trivial,HP.out⟩⟩,bt Nk Na⟩
 ·have tn:(se !=0)=true:=by simp;exact Ug
  clear KP KC;go_enter Tryz.func22,Tryz.ntmps22
  go_upto_region 1 with(fail)
  rw[Nl.out];go_wp2_with fail
  refine K1.out.mono ?_;rintro e w1 ⟨rfl,M8⟩;have Ni:=bt Nm M8;clear K1 HC Nl;go_wp2;go_ret2
  exact⟨⟨⟨#[]⟩,se,rfl,Or.inl ⟨Ug,rfl,rfl⟩⟩,Ni⟩
theorem Ac(R:oV)(A:Option Addr)(c:Nat)(w:World)(hT:dV w)(hr:Rd A R.fields.length 2 (aJ R.fields) w)(hn:R.fields.length<=100000)(hs:aE R.fields<=900000)(Yc:0<=R.minor/\R.minor<=1)(Sm:R.method.length<=1000000)(Vx:R.target.length<=1000000)(O9:R.body=[])(hp:mn.contains R.method=false):Calls Tryz.prog 22 #[uu R A c] w λe w'=>e=.returned (.tuple #[.string ⟨(cm R).1.toArray⟩,.int .i64 (cm R).2])/\Below w.heap.size w w':=by
 have hM:cm R=bif(cy R.method R.target R.minor).2 !=0 then([],(cy R.method R.target R.minor).2)else jP (cy R.method R.target R.minor).1 R.fields (-1) []:=by unfold cm;rw[O9,hp];rfl
 have h:=qO ⟨R.method.toArray⟩ ⟨R.target.toArray⟩ R.minor A R.fields.length c w hT (by rw[aR];exact Sm) (by rw[aR];omega) Yc (by rw[bq];exact hp)
  (λsl x er=>x=⟨(jP sl R.fields (-1) []).1.toArray⟩/\er=(jP sl R.fields (-1) []).2)
  (fun sl W hb hz=>by refine(zZ sl A R.fields.length c R.fields (-1) ⟨#[]⟩ W (hT.on hb) (by omega) (hr.below hb) hn hs (by decide) (by decide)).mono ?_;rintro e w' ⟨rfl,N4⟩;exact⟨⟨_,_,rfl,rfl,rfl⟩,N4⟩)
 rw[bq,bq]at h;unfold uu;rw[O9];refine h.mono ?_;rintro e w' ⟨⟨x,er,rfl,hx⟩,hb⟩;refine⟨?_,hb⟩;rw[hM];rcases hx with⟨h1,rfl,rfl⟩|⟨h1,rfl,rfl⟩
 ·rw[show((cy R.method R.target R.minor).2 !=0)=true from by simpa using h1,cond_true]
 ·rw[h1];rfl
theorem Be(R:oV)(A:Option Addr)(c:Nat)(w:World)(hT:dV w)(hr:Rd A R.fields.length 2 (aJ R.fields) w)(hn:R.fields.length<=400000)(hs:aE R.fields<=1100000)(Yc:0<=R.minor/\R.minor<=1)(Sm:R.method.length<=1000000)(Vx:R.target.length<=2000000)(O9:R.body=[])(hp:mn.contains R.method=false):Calls Tryz.prog 22 #[uu R A c] w λe w'=>e=.returned (.tuple #[.string ⟨(cm R).1.toArray⟩,.int .i64 (cm R).2])/\Below w.heap.size w w':=by
 have hM:cm R=bif(cy R.method R.target R.minor).2 !=0 then([],(cy R.method R.target R.minor).2)else jP (cy R.method R.target R.minor).1 R.fields (-1) []:=by unfold cm;rw[O9,hp];rfl
 have h:=qO ⟨R.method.toArray⟩ ⟨R.target.toArray⟩ R.minor A R.fields.length c w hT (by rw[aR];exact Sm) (by rw[aR];omega) Yc (by rw[bq];exact hp)
  (λsl x er=>x=⟨(jP sl R.fields (-1) []).1.toArray⟩/\er=(jP sl R.fields (-1) []).2)
  (fun sl W hb hz=>by refine(yA sl A R.fields.length c R.fields (-1) ⟨#[]⟩ W (hT.on hb) (by omega) (hr.below hb) hn hs (by decide) (by decide)).mono ?_;rintro e w' ⟨rfl,N4⟩;exact⟨⟨_,_,rfl,rfl,rfl⟩,N4⟩)
 rw[bq,bq]at h;unfold uu;rw[O9];refine h.mono ?_;rintro e w' ⟨⟨x,er,rfl,hx⟩,hb⟩;refine⟨?_,hb⟩;rw[hM];rcases hx with⟨h1,rfl,rfl⟩|⟨h1,rfl,rfl⟩
 ·rw[show((cy R.method R.target R.minor).2 !=0)=true from by simpa using h1,cond_true]
 ·rw[h1];rfl
def Aj:List UInt8:=[97,98,99,100,101,102,103,104,105,106,107,108,109,110,111,112,113,114,115,116,117,118,119,120,121,122,65,66,67,68,69,70,71,72,73,74,75,76,77,78,79,80,81,82,83,84,85,86,87,88,89,90,48,49,50,51,52,53,54,55,56,57]
def gR:List UInt8:=Aj++[45,46,95,126]
def kQ:List UInt8:=gR++[33,36,38,39,40,41,42,43,44,59,61,58,64,47]
def jH:List UInt8:=kQ++[63]
def iZ:List UInt8:=Aj++[45,46]
def cU:List UInt8->List (List UInt8) × Bool
 | []=>([],true)
 | c :: r=>bif c==37 then (match r with
  |a::b::t=>bif eO a&&eO b then([c,a,b]::(cU t).1,(cU t).2)else([],false)
  |_=>([],false))else([c]::(cU r).1,(cU r).2)
def iB(set p:List UInt8):Bool:=decide (1<p.length)||set.contains (p.headD 0)
def kT(s set:List UInt8):Bool:=(cU s).2&&(cU s).1.all (iB set)
structure fg where
 scheme:List UInt8
 host:List UInt8
 port:Int
 path:List UInt8
 query:List UInt8
 hasQ:Bool
def fg.none:fg:=⟨[],[],0,[],[],false⟩
def pH:List UInt8:=[58,47,47]
def kV(u:fg):List UInt8:=u.scheme++(pH++(u.host++((bif u.port==0 then []else 58::Lib.itoa u.port)++(u.path++(bif u.hasQ then 63::u.query else [])))))
def gF:List UInt8:=[104,116,116,112]
def fQ:List UInt8:=[104,116,116,112,115]
def wR(u:fg):Bool:=
 ((u.scheme !=gF)&&(u.scheme !=fQ))||(u.host.isEmpty||decide (253<u.host.length)||!u.host.all iZ.contains)||(decide (u.port<0)||decide (65535<u.port)) ||
 ((u.path.headD 0 !=47)||!kT u.path kQ)||((!u.hasQ&&!u.query.isEmpty)||!kT u.query jH)
def cj(u:fg):Int:=bif wR u then 4 else bif decide (1024<(kV u).length)then 3 else 0
def vg(h:List UInt8):Option (List UInt8 × Int):=
 let c:=Lib.cut h [58]
 bif !c.2.2 then some (h,0)else
 match Lib.atoiAll c.2.1 with
 |.ok n=>bif(Lib.itoa n !=c.2.1)||decide (n<1)then none else some (c.1,n)
 |_=>none
def oG(s:List UInt8):List UInt8 × List UInt8 × List UInt8 × List UInt8 × Bool:=
 let c:=Lib.cut s pH
 let d:=Lib.cut c.2.1 [63]
 let at_:=bif decide (Lib.indexByte d.1 47<0)then d.1.length else(Lib.indexByte d.1 47).toNat
 (c.1,d.1.take at_,bif(d.1.drop at_).isEmpty then [47]else d.1.drop at_,d.2.1,d.2.2)
def dD(s:List UInt8):fg × Int:=
 bif decide (1024<s.length)then(fg.none,3)else
 let r:=oG s
 match vg r.2.1 with
 |none=>(fg.none,4)
 |some hp=>
  let u:fg:=⟨r.1,hp.1,hp.2,r.2.2.1,r.2.2.2.1,r.2.2.2.2⟩
  bif cj u==0 then(u,0)else(fg.none,cj u)
def pP(u:fg):List UInt8:=bif cj u==0 then kV u else []
def uf(c:UInt8):UInt8:=bif decide (97<=c.toNat)&&decide (c.toNat<=122)then c-32 else c
def kI(p:List UInt8):List UInt8:=match p with
 | [_,a,b]=>bif gR.contains (UInt8.ofNat (16*gE a+gE b))then [UInt8.ofNat (16*gE a+gE b)]else [37,uf a,uf b]
 |_=>p
def iD(s:List UInt8):List UInt8:=(cU s).1.flatMap kI
def bO:List UInt8->List (List UInt8)
 | []=>[[]]
 | c :: r=>bif c==47 then [] :: bO r else match bO r with
  |p::q=>(c::p)::q
  | []=>[[c]]
def pJ:List UInt8:=[46]
def lk:List UInt8:=[46,46]
def gW(kept:List (List UInt8))(p:List UInt8):List (List UInt8):=bif p==pJ then kept else bif p==lk then kept.take (kept.length-1)else kept++[p]
def nf(path:List UInt8):List UInt8:=
 bif path.headD 0 !=47 then []else
 let ps:=bO (path.drop 1)
 let kept:=ps.foldl gW []
 let last:=ps.getLastD []
 47::(Lib.join kept [47]++(bif((last==pJ)||(last==lk))&&decide (0<kept.length)then [47]else []))
def db(u:fg):fg:=
 bif cj u !=0 then fg.none else
 ⟨u.scheme,ai u.host,bif((u.scheme==gF)&&(u.port==80))||((u.scheme==fQ)&&(u.port==443))then 0 else u.port,nf (iD u.path),iD u.query,u.hasQ⟩
def nI(u:fg):List UInt8:=pP (db u)
theorem C5(bG bS:Nat)(set p:ByteArray)(g:Bool)(w:World)(hM:cq w)(hp:0<p.size)(hs:set.size<=1000)(hG:aq bG (.bool g) 4 w)(hS:aq bS (.string set) 9 w):Calls Tryz.prog 202 #[.string p,.pointer (some ⟨bG,0,none⟩),.pointer (some ⟨bS,0,none⟩)] w λe w'=>e=.returned (.tuple #[])/\w'=w.setCell ⟨bG,0,none⟩ (.bool (g&&(decide (1<p.size)||Lib.contains set.data.toList p.data.toList))):=by
 obtain⟨h0,m,hm⟩:=hM;have kc:=Tryz.strings_Contains set p m w (by omega) hm;obtain⟨g0,g0f⟩:=hG.cell;obtain⟨s0,-⟩:=hS.cell
 cases g
 ·go_enter Tryz.func202,Tryz.ntmps202
  go_wp2;go_end0
  exact⟨rfl,rfl⟩
 ·by_cases h1:1<p.size
  ·have t1:decide ((p.size:Int)>1)=true:=decide_eq_true (by omega);rw[decide_eq_true h1];go_enter Tryz.func202,Tryz.ntmps202
   go_wp2;go_end0
   exact⟨rfl,rfl⟩
  ·have t1:decide ((p.size:Int)>1)=false:=decide_eq_false (by omega);rw[decide_eq_false h1];generalize Lib.contains set.data.toList p.data.toList=b at*;have KC:=ah kc;clear kc;go_enter Tryz.func202,Tryz.ntmps202
   go_wp2_with fail
   refine KC.out.mono ?_;rintro e w1 ⟨rfl,rfl⟩;go_wp2;go_end0
   exact⟨rfl,rfl⟩
theorem Fi(s:List UInt8)(c:UInt8):Lib.contains s [c]=s.contains c:=by unfold Lib.contains;rw[Lib.index_one,<-Lib.contains_iff_indexByte]
theorem yo(set p:List UInt8)(h:p.length=1\/1<p.length):(decide (1<p.length)||Lib.contains set p)=iB set p:=by
 unfold iB;rcases h with h|h
 ·match p,h with
  | [c],_=>rw[Fi];rfl
 ·rw[decide_eq_true h,iY,iY]
theorem pL(c:UInt8)(r:List UInt8)(h:(c==37)=false):cU (c::r)=([c]::(cU r).1,(cU r).2):=by
 match r with
 | []=>simp[cU,h]
 | [x]=>simp[cU,h]
 |x::y::t=>rw[cU,h];rfl
theorem tQ(a b:UInt8)(t:List UInt8):cU (37::a::b::t)=bif eO a&&eO b then([37,a,b]::(cU t).1,(cU t).2)else([],false):=by rw[cU];rfl
theorem xT(r:List UInt8)(h:r.length<2):cU (37::r)=([],false):=by
 match r,h with
 | [],_=>simp[cU]
 | [a],_=>simp[cU]
theorem I8(bG bS:Nat)(set s:ByteArray)(g:Bool)(w:World)(hM:cq w)(Ng:0≠bG)(SO:bS≠bG)(hz:s.size<=1000000)(hs:set.size<=1000)(hG:aq bG (.bool g) 4 w)(hS:aq bS (.string set) 9 w):Calls Tryz.prog 201 #[.string s,.func (.func 202) #[] #[.pointer (some ⟨bG,0,none⟩),.pointer (some ⟨bS,0,none⟩)]] w λe w'=>e=.returned (.bool (cU s.data.toList).2)/\w.grownBy w' (some bG)/\aq bG (.bool (g&&(cU s.data.toList).1.all (iB set.data.toList))) 4 w':=by
 obtain⟨T,hT⟩:=aH (cU s.data.toList);rw[hT];obtain⟨V,hV⟩:=aH (g&&T.1.all (iB set.data.toList));rw[hV];have Rt:Hid ((cU s.data.toList).2=T.2/\(g&&(cU s.data.toList).1.all (iB set.data.toList))=V):=am ⟨by rw[hT],by rw[hT];exact hV⟩;obtain⟨HG,HS⟩:=az hG hS;have Ol:=aO w.heap.size w;clear hT hV hG hS;go_enter Tryz.func201,Tryz.ntmps201
 go_wp2_with fail
 go_loopw [0] (λx wr=>∃(b:ByteArray) (g:Bool),x=.string b/\b.size<=1000000/\Hid (w.grownBy wr (some bG))/\Hid (aq bG (.bool g) 4 wr)/\Hid ((cU b.data.toList).2=T.2/\(g&&(cU b.data.toList).1.all (iB set.data.toList))=V)) (λx _=>BR x)
 case atStart=>exact⟨s,g,rfl,hz,am (e_ bG Ol),HG,Rt⟩
 case round=>
  clear Rt HG Ol;obtain⟨b,g,rfl,Xe,HW,HG,HR⟩:=hrel;have hr:=HR.out;by_cases h0:0<b.size
  ·obtain⟨c,r,hl⟩:∃c r,b.data.toList=c::r:=by
    match h:b.data.toList with
    | []=>rw[aY,h]at h0;cases h0
    |c::r=>exact⟨c,r,rfl⟩
   have hc:b[0]'h0=c:=by
    have:b.data.toList[0]'(by rw[hl];exact Nat.succ_pos _)=c:=by simp[hl]
    exact this
   have Nx:b.size=r.length+1:=by rw[aY,hl];rfl
   have hgs:gA bG bG w wr:=gA.of_gb HW.out;have S1:=ah (show aq bS (.string set) 9 wr from hgs.keep HS.out SO SO);have kM:=hM.gb HW.out Ng;have QJ:(b.extract 1 b.size).data.toList=r:=by rw[fe,hl];rfl
   by_cases h37:c=37
   ·have t1:((c.toNat:Int)==37)=true:=by rw[h37];rfl
    have Va:(!b.toList.isEmpty)=true:=by rw[dY,hl];rfl
    by_cases h2:r.length<2
    ·rw[hl,h37,xT r h2]at hr;have t2:decide ((b.size:Int)<3)=true:=decide_eq_true (by omega);have h1:false=T.2:=hr.1;have h2:(g&&true)=V:=hr.2;rw[kN]at h2;subst h2;have H1:=ah h1;clear HR hr h1 hl QJ hgs S1 Nx;go_wp2;go_ret;exact⟨by rw[<-H1.out];rfl,HW.out,HG.out⟩
    ·obtain⟨x,y,t,rfl⟩:∃x y t,r=x::y::t:=by
      match r,h2 with
      |x::y::t,_=>exact⟨x,y,t,rfl⟩
      | [x],h=>exact absurd (show 1<2 by decide) h
      | [],h=>exact absurd (show 0<2 by decide) h
     have Na:3<=b.size:=by rw[Nx];simp
     have t2:decide ((b.size:Int)<3)=false:=decide_eq_false (by omega);rw[hl,h37,tQ]at hr;have RP:(b.extract 1 3).data.toList=[x,y]:=by rw[eD,hl];rfl
     have kt:=λW=>ja (b.extract 1 3) uR W (by rw[eu];omega) (by decide) (by decide) (by decide)
     rw[show(uR:ByteArray).data.toList=xx from rfl,RP]at kt;have Pc:=sO [x,y];have SG:[x,y].all eO=(eO x&&eO y):=by simp
     rw[SG]at Pc;generalize Lib.trimS [x,y] xx=tt at*;have KT:=ah kt;have n3:(3:Int)<=b.size:=by omega
     have n1:(1:Int)<=b.size:=by omega
     clear kt RP SG
     cases hh:eO x&&eO y
     ·rw[hh]at hr Pc;have tt0:(!tt.isEmpty)=true:=by cases tt with|nil=>simp at Pc|cons _ _=>rfl
      have tt1:(tt==[])=false:=Pc;have h1:false=T.2:=hr.1;have h2:(g&&true)=V:=hr.2;rw[kN]at h2;subst h2;have H1:=ah h1;clear HR hr h1 hl QJ hgs S1 Nx hh Pc;go_wp2_with fail
      refine(KT.out _).mono ?_;rintro e w1 ⟨rfl,M8⟩;have OO:=HG.out.below M8;have Re:=cV HW.out (e_ bG M8);clear KT;go_wp2;go_ret;exact⟨by rw[<-H1.out];rfl,Re,OO⟩
     ·rw[hh]at hr Pc;have tt0:(!tt.isEmpty)=false:=by cases tt with|nil=>rfl|cons _ _=>simp at Pc
      have tt1:(tt==[])=true:=Pc;have hex:(b.extract 0 3).data.toList=[37,x,y]:=by rw[eD,hl,h37];rfl
      have UU:(b.extract 3 b.size).data.toList=t:=by rw[fe,hl];rfl
      have kc:=λW hM hG hS=>C5 bG bS set (b.extract 0 3) g W hM (by rw[eu];omega) hs hG hS
      rw[aY,hex,yo _ [37,x,y] (Or.inr (show 1<3 by decide)),show iB set.data.toList [37,x,y]=true from rfl,kN]at kc
      have Om:Hid ((cU (b.extract 3 b.size).data.toList).2=T.2/\(g&&(cU (b.extract 3 b.size).data.toList).1.all (iB set.data.toList))=V):=by rw[UU];exact am hr
      have ND:(b.extract 3 b.size).size<b.size:=by rw[eu];omega
      have KC:=ah kc;clear kc hr HR hex QJ UU hl Nx hgs hh Pc;go_wp2_with fail
      refine(KT.out _).mono ?_;rintro e w1 ⟨rfl,M8⟩;have OO:=HG.out.below M8;have P8:=S1.out.below M8;have Re:=cV HW.out (e_ bG M8);have kc:=KC.out w1 (kM.below M8) OO P8;have N8:=ah (show aq bG (.bool g) 4 (w1.setCell ⟨bG,0,none⟩ (.bool g))from OO.set);have OU:=ah (cV Re (al w1 bG 0 (.bool g)));clear KT KC HG S1 OO P8 Re;go_wp2_with fail
      refine kc.mono ?_;rintro e w2 ⟨rfl,rfl⟩;clear kc;go_wp2_with fail
      go_roundw
      case rel=>exact⟨_,_,rfl,by omega,OU,N8,Om⟩
      case measure=>exact ND
   ·have t1:((c.toNat:Int)==37)=false:=by
     simp
     intro h;exact h37 (UInt8.toNat_inj.mp (by show c.toNat=37;omega))
    rw[hl,pL c r (by simp;exact h37)]at hr;have hex:(b.extract 0 1).data.toList=[c]:=by rw[eD,hl];rfl
    have kc:=C5 bG bS set (b.extract 0 1) g wr kM (by rw[eu];omega) hs HG.out S1.out;rw[aY,hex,yo _ _ (Or.inl rfl)]at kc
    have Om:Hid ((cU (b.extract 1 b.size).data.toList).2=T.2/\((g&&iB set.data.toList [c])&&(cU (b.extract 1 b.size).data.toList).1.all (iB set.data.toList))=V):=by rw[QJ];simp only[jh,<-Bool.and_assoc]at hr;exact am hr
    have N8:=ah (show aq bG (.bool (g&&iB set.data.toList [c])) 4 (wr.setCell ⟨bG,0,none⟩ (.bool (g&&iB set.data.toList [c])))from HG.out.set);have OU:=ah (cV HW.out (al wr bG 0 (.bool (g&&iB set.data.toList [c]))));have ND:(b.extract 1 b.size).size<b.size:=by rw[eu];omega
    have n1:(1:Int)<=b.size:=by omega
    have Va:(!b.toList.isEmpty)=true:=by rw[dY,hl];rfl
    generalize iB set.data.toList [c]=gp at*;have KC:=ah kc;clear kc hr HR hex QJ hl Nx hgs HG S1;go_wp2_with fail
    refine KC.out.mono ?_;rintro e w1 ⟨rfl,rfl⟩;clear KC;go_wp2_with fail
    go_roundw
    case rel=>exact⟨_,_,rfl,by omega,OU,N8,Om⟩
    case measure=>exact ND
  ·have hb:b.data.toList=[]:=mz (by rw[<-aY];omega);have Va:(!b.toList.isEmpty)=false:=by rw[dY,hb];rfl
   rw[hb]at hr;have h1:true=T.2:=hr.1;have h2:(g&&true)=V:=hr.2;rw[kN]at h2;subst h2;have H1:=ah h1;clear HR hr h1;go_wp2;go_ret;exact⟨by rw[<-H1.out];rfl,HW.out,HG.out⟩
theorem xR(s set:ByteArray)(w:World)(hM:cq w)(hz:s.size<=1000000)(hs:set.size<=1000):Calls Tryz.prog 145 #[.string s,.string set] w λe w'=>e=.returned (.bool (kT s.data.toList set.data.toList))/\Below w.heap.size w w':=by
 have VT:=wG;obtain⟨W0,Nb⟩:=aH ((w.alloc (.cells #[.string set] 9)).alloc (.cells #[.bool true] 4));have hA:aq w.heap.size (.string set) 9 (w.alloc (.cells #[.string set] 9)):=ay w _ _ rfl;have hS:aq w.heap.size (.string set) 9 W0:=by rw[<-Nb];exact hA.below ((aO _ _).alloc (aw _) _)
 have hG:aq (w.heap.size+1) (.bool true) 4 W0:=by rw[<-Nb];exact ay _ _ _ (by simp)
 have Nm:Below w.heap.size w W0:=by rw[<-Nb];exact((aO _ w).alloc (aw _) _).alloc (by simp) _
 have hzz:=ae hG;have SN:=hM.1;have k1:=I8 (w.heap.size+1) w.heap.size set s true W0 (hM.below Nm) (by omega) (by omega) hz hs hG hS;unfold kT;generalize cU s.data.toList=E at*;obtain⟨e1,e2⟩:=E;simp only[eJ]at k1 ⊢;generalize e1.all (iB set.data.toList)=b at*;obtain⟨K1,Nl⟩:=az k1 Nb;clear k1 Nb hA hS hG;go_enter Tryz.func145,Tryz.ntmps145
 go_wp2_with fail
 rw[Nl.out];refine K1.out.mono ?_;rintro e w1 ⟨rfl,OO,O0⟩;have Ni:Below w.heap.size w w1:=Nm.trans (fj OO (by omega) Nm.size);have c0:=O0.cell.1;clear K1 Nl
 cases e2
 ·go_wp2;go_ret;exact⟨rfl,Ni⟩
 ·go_wp2;go_ret;exact⟨by rw[eJ];rfl,Ni⟩
def dR(u:fg):Value:=.agg #[.string ⟨u.scheme.toArray⟩,.string ⟨u.host.toArray⟩,.int .i64 u.port,.string ⟨u.path.toArray⟩,.string ⟨u.query.toArray⟩,.bool u.hasQ]
def lI(u:fg):Prop:=u.scheme.length<=1000000/\u.host.length<=1000000/\(-9223372036854775808<=u.port/\u.port<=9223372036854775807)/\u.path.length<=1000000/\u.query.length<=1000000
theorem Bc(u:fg)(w:World)(hT:dV w)(hu:lI u):Calls Tryz.prog 93 #[dR u] w λe w'=>e=.returned (.string ⟨(kV u).toArray⟩)/\Below w.heap.size w w':=by
 obtain⟨sc,ho,po,pa,qu,hq⟩:=u;obtain⟨h1,h2,h3,h4,h5⟩:=hu;simp only at h1 h2 h3 h4 h5
 obtain⟨sb,rfl⟩:∃b:ByteArray,sc=b.data.toList:=⟨⟨sc.toArray⟩,rfl⟩;obtain⟨hb,rfl⟩:∃b:ByteArray,ho=b.data.toList:=⟨⟨ho.toArray⟩,rfl⟩;obtain⟨pb,rfl⟩:∃b:ByteArray,pa=b.data.toList:=⟨⟨pa.toArray⟩,rfl⟩;obtain⟨qb,rfl⟩:∃b:ByteArray,qu=b.data.toList:=⟨⟨qu.toArray⟩,rfl⟩;rw[<-aY]at h1 h2 h4 h5;unfold dR;simp only[bN];obtain⟨W0,Nb⟩:=bg w (.cells #[.string sb,.string hb,.int .i64 po,.string pb,.string qb,.bool hq] 93);have Nm:=bm Nb;have hH:=dU Nb
 have cell:∀W,Below W0.heap.size W0 W->W.cell? ⟨w.heap.size,0,none⟩=some (.string sb)/\W.cell? ⟨w.heap.size,1,none⟩=some (.string hb)/\W.cell? ⟨w.heap.size,2,none⟩=some (.int .i64 po)/\W.cell? ⟨w.heap.size,3,none⟩=some (.string pb)/\W.cell? ⟨w.heap.size,4,none⟩=some (.string qb)/\W.cell? ⟨w.heap.size,5,none⟩=some (.bool hq):=λW hb=>by have h:=(hb.block _ (ae hH)).trans hH;exact⟨(ab h 0).1,(ab h 1).1,(ab h 2).1,(ab h 3).1,(ab h 4).1,(ab h 5).1⟩
 obtain⟨c0,c1,c2,c3,c4,c5⟩:=cell W0 (aO _ _);obtain⟨Nl,HC⟩:=az Nb cell;clear Nb cell hH;by_cases hp:po=0
 ·subst hp
  cases hq
  ·have he:(⟨(kV ⟨sb.data.toList,hb.data.toList,0,pb.data.toList,qb.data.toList,false⟩).toArray⟩:ByteArray)=((sb++vP:ByteArray)++hb)++pb:=by apply dE;simp[kV,pH,qo]
   have HE:=ah he;clear he;go_enter Tryz.func93,Tryz.ntmps93
   go_upto_region 1 with(fail)
   rw[Nl.out];go_wp2;go_ret;exact⟨by rw[HE.out];rfl,Nm⟩
  ·have he:(⟨(kV ⟨sb.data.toList,hb.data.toList,0,pb.data.toList,qb.data.toList,true⟩).toArray⟩:ByteArray)=(((sb++vP:ByteArray)++hb)++pb)++(⟨#[63]⟩++qb):=by apply dE;simp[kV,pH,qo]
   have HE:=ah he;clear he;go_enter Tryz.func93,Tryz.ntmps93
   go_upto_region 1 with(fail)
   rw[Nl.out];go_wp2;go_ret;exact⟨by rw[HE.out];rfl,Nm⟩
 ·have t1:(po !=0)=true:=by simp;exact hp
  have t2:(po==0)=false:=by simp;exact hp
  have k1:=oR po h3.1 h3.2 W0 (hT.on Nm);have Q7:=Lib.itoa_length_le po h3.1 h3.2;obtain⟨ib,VA⟩:∃b:ByteArray,Lib.itoa po=b.data.toList:=⟨⟨(Lib.itoa po).toArray⟩,rfl⟩;rw[VA,<-aY]at Q7;rw[VA,bN]at k1;have K1:=ah k1;have e0:(bif po==0 then []else 58::Lib.itoa po)=58::ib.data.toList:=by rw[t2,cond_false,VA]
  clear k1 h3
  cases hq
  ·have he:(⟨(kV ⟨sb.data.toList,hb.data.toList,po,pb.data.toList,qb.data.toList,false⟩).toArray⟩:ByteArray)=(((sb++vP:ByteArray)++hb)++(qz++ib))++pb:=by apply dE;unfold kV;simp only;rw[e0];simp[pH,qo]
   have HE:=ah he;clear he e0 VA;go_enter Tryz.func93,Tryz.ntmps93
   go_upto_region 1 with(fail)
   rw[Nl.out];go_wp2_with fail
   refine K1.out.mono ?_;rintro e w1 ⟨rfl,M8⟩;obtain⟨d0,d1,d2,d3,d4,d5⟩:=HC.out _ M8;have Ni:=bt Nm M8;clear K1 HC;go_wp2;go_ret;exact⟨by rw[HE.out];rfl,Ni⟩
  ·have he:(⟨(kV ⟨sb.data.toList,hb.data.toList,po,pb.data.toList,qb.data.toList,true⟩).toArray⟩:ByteArray)=((((sb++vP:ByteArray)++hb)++(qz++ib))++pb)++(⟨#[63]⟩++qb):=by apply dE;unfold kV;simp only;rw[e0];simp[pH,qo]
   have HE:=ah he;clear he e0 VA;go_enter Tryz.func93,Tryz.ntmps93
   go_upto_region 1 with(fail)
   rw[Nl.out];go_wp2_with fail
   refine K1.out.mono ?_;rintro e w1 ⟨rfl,M8⟩;obtain⟨d0,d1,d2,d3,d4,d5⟩:=HC.out _ M8;have Ni:=bt Nm M8;clear K1 HC;go_wp2;go_ret;exact⟨by rw[HE.out];rfl,Ni⟩
theorem F_(l cs:List UInt8):(Lib.trimS l cs==[])=l.all cs.contains:=by rw[jj,beq_iff_eq,pO,dH]
theorem mW(l:List UInt8):([47]:List UInt8).isPrefixOf l=!(l.headD 0 !=47):=by
 cases l with
 |nil=>rfl
 |cons x r=>
  show(([47]:List UInt8).isPrefixOf (x::r))=!(x !=47)
  rw[List.isPrefixOf,List.isPrefixOf,kN]
  cases h:(x==47)
  ·have:((47:UInt8)==x)=false:=by rw[beq_eq_false_iff_ne]at*;exact λe=>h e.symm
   rw[this];simp[bne,h]
  ·have:((47:UInt8)==x)=true:=by rw[beq_iff_eq]at*;exact h.symm
   rw[this];simp[bne,h]
theorem DX(u:fg):(kV u).length=u.scheme.length+3+u.host.length+(bif u.port==0 then 0 else 1+(Lib.itoa u.port).length)+u.path.length+(bif u.hasQ then 1+u.query.length else 0):=by
 unfold kV
 cases(u.port==0)<;>cases u.hasQ<;>simp[pH]<;>omega
theorem BK{c:UInt8}(h:iZ.contains c=true):decide (Lib.indexByte iZ c<0)=false:=by
 rw[Lib.contains_iff_indexByte]at h;simp at h ⊢
 exact h
theorem lS(u:fg)(w:World)(hM:cq w)(hT:dV w)(hu:lI u):Calls Tryz.prog 87 #[dR u] w λe w'=>e=.returned (.int .i64 (cj u))/\Below w.heap.size w w':=by
 have hp:=λW hb=>Bc u W (hT.on hb) hu
 have Oe:=DX u;obtain⟨V,hV⟩:=aH (cj u);have h4:wR u=true->V=4:=λh=>by rw[<-hV];unfold cj;rw[h];rfl
 have h0:wR u=false->V=bif decide (1024<(kV u).length)then 3 else 0:=λh=>by rw[<-hV];unfold cj;rw[h];rfl
 rw[hV];clear hV;obtain⟨sc,ho,po,pa,qu,hq⟩:=u;obtain⟨h1,h2,h3,h4',h5⟩:=hu;simp only at h1 h2 h3 h4' h5 Oe
 obtain⟨sb,rfl⟩:∃b:ByteArray,sc=b.data.toList:=⟨⟨sc.toArray⟩,rfl⟩;obtain⟨hb,rfl⟩:∃b:ByteArray,ho=b.data.toList:=⟨⟨ho.toArray⟩,rfl⟩;obtain⟨pb,rfl⟩:∃b:ByteArray,pa=b.data.toList:=⟨⟨pa.toArray⟩,rfl⟩;obtain⟨qb,rfl⟩:∃b:ByteArray,qu=b.data.toList:=⟨⟨qu.toArray⟩,rfl⟩
 have Q7:(bif po==0 then 0 else 1+(Lib.itoa po).length)<=22:=by
  have:=Lib.itoa_length_le po h3.1 h3.2
  cases(po==0)
  ·rw[cond_false];omega
  ·rw[cond_true];omega
 have hlen:(kV ⟨sb.data.toList,hb.data.toList,po,pb.data.toList,qb.data.toList,hq⟩).length<=5000000:=by
  rw[Oe]
  cases hq
  ·rw[cond_false];omega
  ·rw[cond_true];omega
 clear Oe Q7;rw[<-aY]at h1 h2 h4' h5;unfold dR at*;simp only[bN]at*;unfold wR at h4 h0;simp only at h4 h0
 obtain⟨W0,Nb⟩:=bg w (.cells #[.string sb,.string hb,.int .i64 po,.string pb,.string qb,.bool hq] 93);have Nm:=bm Nb;have hH:=dU Nb
 have cell:∀W,Below W0.heap.size W0 W->W.cell? ⟨w.heap.size,0,none⟩=some (.string sb)/\W.cell? ⟨w.heap.size,1,none⟩=some (.string hb)/\W.cell? ⟨w.heap.size,2,none⟩=some (.int .i64 po)/\W.cell? ⟨w.heap.size,3,none⟩=some (.string pb)/\W.cell? ⟨w.heap.size,4,none⟩=some (.string qb)/\W.cell? ⟨w.heap.size,5,none⟩=some (.bool hq):=λW hb=>by have h:=(hb.block _ (ae hH)).trans hH;exact⟨(ab h 0).1,(ab h 1).1,(ab h 2).1,(ab h 3).1,(ab h 4).1,(ab h 5).1⟩
 obtain⟨Nl,HC⟩:=az Nb cell;clear Nb cell hH;generalize kV ⟨sb.data.toList,hb.data.toList,po,pb.data.toList,qb.data.toList,hq⟩=pt at*;obtain⟨pq,rfl⟩:∃b:ByteArray,pt=b.data.toList:=⟨⟨pt.toArray⟩,rfl⟩;rw[<-aY]at hlen;simp only[bN]at hp;obtain⟨c0,c1,c2,c3,c4,c5⟩:=HC.out W0 (aO _ _);have e1:sb.toList=sb.data.toList:=dY _;have e2:hb.toList=hb.data.toList:=dY _;have e3:qb.toList=qb.data.toList:=dY _;have HP:=ah hp;clear hp;obtain⟨hostB,hhB⟩:∃b:ByteArray,b=Au:=⟨_,rfl⟩;have g1:((sb.data.toList !=gF)&&(sb.data.toList !=fQ))=true->V=4:=λh=>h4 (by rw[h];simp)
 have g2:(hb.data.toList.isEmpty||decide (253<hb.data.toList.length)||!hb.data.toList.all iZ.contains)=true->V=4:=λh=>h4 (by rw[h];simp)
 have g3:(decide (po<0)||decide (65535<po))=true->V=4:=λh=>h4 (by rw[h];simp)
 have g4:((pb.data.toList.headD 0 !=47)||!kT pb.data.toList kQ)=true->V=4:=λh=>h4 (by rw[h];simp)
 have g5:((!hq&&!qb.data.toList.isEmpty)||!kT qb.data.toList jH)=true->V=4:=λh=>h4 (by rw[h];simp)
 have g0:((sb.data.toList !=gF)&&(sb.data.toList !=fQ))=false->(hb.data.toList.isEmpty||decide (253<hb.data.toList.length)||!hb.data.toList.all iZ.contains)=false->(decide (po<0)||decide (65535<po))=false->((pb.data.toList.headD 0 !=47)||!kT pb.data.toList kQ)=false->((!hq&&!qb.data.toList.isEmpty)||!kT qb.data.toList jH)=false->V=bif decide (1024<pq.size)then 3 else 0:=λa b c d e=>by rw[h0 (by rw[a,b,c,d,e];rfl),aY]
 rw[<-aY]at g2 g0;have kt:=ja hb Au W0 (by omega) (by decide) (by decide) (by decide);rw[show(Au:ByteArray).data.toList=iZ from rfl]at kt;have Ro:=F_ hb.data.toList iZ;generalize Lib.trimS hb.data.toList iZ=tt at*;have NY:hb.data.toList.all iZ.contains=true->∀k(h:k<hb.size),decide (Lib.indexByte iZ hb[k]<0)=false:=λh k hk=>BK (dH.1 h _ (by show hb.data[k]∈_;simp))
 have kh:=λW=>Tryz.strings_HasPrefix pb ip W
 rw[show(ip:ByteArray).data.toList=[47]from rfl,show Lib.hasPrefix pb.data.toList [47]=([47]:List UInt8).isPrefixOf pb.data.toList from rfl,mW]at kh;have km:=λW hM=>xR pb ⟨([97,98,99,100,101,102,103,104,105,106,107,108,109,110,111,112,113,114,115,116,117,118,119,120,121,122,65,66,67,68,69,70,71,72,73,74,75,76,77,78].append [79,80,81,82,83,84,85,86,87,88,89,90,48,49,50,51,52,53,54,55,56,57,45,46,95,126,33,36,38,39,40,41,42,43,44,59,61,58,64,47]).toArray⟩ W hM h4' (by decide)
 rw[show(⟨([97,98,99,100,101,102,103,104,105,106,107,108,109,110,111,112,113,114,115,116,117,118,119,120,121,122,65,66,67,68,69,70,71,72,73,74,75,76,77,78].append [79,80,81,82,83,84,85,86,87,88,89,90,48,49,50,51,52,53,54,55,56,57,45,46,95,126,33,36,38,39,40,41,42,43,44,59,61,58,64,47]).toArray⟩:ByteArray).data.toList=kQ from rfl]at km;have kq:=λW hM=>xR qb ⟨([97,98,99,100,101,102,103,104,105,106,107,108,109,110,111,112,113,114,115,116,117,118,119,120,121,122,65,66,67,68,69,70,71,72,73,74,75,76,77,78].append [79,80,81,82,83,84,85,86,87,88,89,90,48,49,50,51,52,53,54,55,56,57,45,46,95,126,33,36,38,39,40,41,42,43,44,59,61,58,64,47,63]).toArray⟩ W hM h5 (by decide)
 rw[show(⟨([97,98,99,100,101,102,103,104,105,106,107,108,109,110,111,112,113,114,115,116,117,118,119,120,121,122,65,66,67,68,69,70,71,72,73,74,75,76,77,78].append [79,80,81,82,83,84,85,86,87,88,89,90,48,49,50,51,52,53,54,55,56,57,45,46,95,126,33,36,38,39,40,41,42,43,44,59,61,58,64,47,63]).toArray⟩:ByteArray).data.toList=jH from rfl]at kq
 have hsc:((sb.data.toList==gF)=true/\((sb.data.toList !=gF)&&(sb.data.toList !=fQ))=false)\/((sb.data.toList==gF)=false/\(sb.data.toList==fQ)=true/\((sb.data.toList !=gF)&&(sb.data.toList !=fQ))=false)\/((sb.data.toList==gF)=false/\(sb.data.toList==fQ)=false):=by
  unfold bne
  cases(sb.data.toList==gF)<;>cases(sb.data.toList==fQ)<;>simp
 generalize kT pb.data.toList kQ=mp at*;generalize kT qb.data.toList jH=mq at*;rw[show gF=[104,116,116,112]from rfl,show fQ=[104,116,116,112,115]from rfl,<-e1]at*;rw[<-e3]at*;generalize (pb.data.toList.headD 0 !=47)=hp47 at*;generalize hb.data.toList.all iZ.contains=ha at*;obtain⟨KT,KH,KM,KQ⟩:=bK kt kh km kq;obtain⟨G1,G2,G3,G4,G5,G0⟩:=eN g1 g2 g3 g4 g5 g0;obtain⟨HA,HTS,HL⟩:=bu NY Ro hlen;clear kt kh km kq h4 h0 g1 g2 g3 g4 g5 g0 NY Ro hlen e1 e3 hhB hostB;rcases hsc with⟨q1,M8⟩|⟨q1,q2,M8⟩|⟨q1,q2⟩
 rotate_left 2
 ·have hv:V=4:=G1.out (by simp[bne,q1,q2]);subst hv;have q3:¬sb.toList=[104,116,116,112]:=by simpa using q1
  have q4:¬sb.toList=[104,116,116,112,115]:=by simpa using q2
  clear HC HP G1 G2 G3 G4 G5 G0 KT KH KM KQ HA HTS HL;go_enter Tryz.func87,Tryz.ntmps87
  go_upto_region 1 with(fail)
  rw[Nl.out];go_wp2_with fail
  go_ret;exact⟨rfl,Nm⟩
 all_goals
  have q3:=q1;simp only[beq_iff_eq,beq_eq_false_iff_ne]at q3;have QX:=ah M8;clear M8 G1;go_enter Tryz.func87,Tryz.ntmps87
  go_upto_region 1 with(fail)
  rw[Nl.out];by_cases z0:0<hb.size
  ·have r1:hb.toList.isEmpty=false:=by rw[e2];exact fh hb z0
   have r2:(hb.toList==[])=false:=by rw[e2];have:=fh hb z0;cases hx:hb.data.toList with|nil=>rw[hx]at this;cases this|cons _ _=>rfl
   have r0:¬hb.data=#[]:=λh=>by have:=fh hb z0;rw[h]at this;cases this
   have r5:hb.data.isEmpty=false:=by simpa using r0
   rw[fh hb z0]at G2 G0;by_cases z1:253<hb.size
   ·have r3:decide ((hb.size:Int)>253)=true:=decide_eq_true (by omega);have hv:V=4:=G2.out (by rw[decide_eq_true z1];rfl);subst hv;clear HC HP G2 G3 G4 G5 G0 KT KH KM KQ HA HTS HL;go_wp2_with fail
    go_ret;exact⟨rfl,Nm⟩
   have r3:decide ((hb.size:Int)>253)=false:=decide_eq_false (by omega);rw[decide_eq_false z1]at G2 G0;go_wp2_with fail
   refine KT.out.mono ?_;rintro e w1 ⟨rfl,M8⟩;have Ni:=bt Nm M8;obtain⟨d0,d1,d2,d3,d4,d5⟩:=HC.out w1 M8;have hB01:=M8;clear KT c0 c1 c2 c3 c4 c5 M8;have Ro:=HTS.out
   cases ha
   ·have hv:V=4:=G2.out (by rfl);subst hv;have t1:(!tt.isEmpty)=true:=by cases tt with|nil=>simp at Ro|cons _ _=>rfl
    have t2:(tt==[])=false:=Ro;have t3:tt.isEmpty=false:=by simpa using t1
    have t4:¬tt=[]:=by simpa using t2
    clear HC HP G2 G3 G4 G5 G0 KH KM KQ HA HTS HL Ro;go_wp2_with fail
    go_ret;exact⟨rfl,Ni⟩
   obtain rfl:tt=[]:=by simpa using Ro
   clear HTS Ro G2;by_cases z2:po<0
   ·have r4:decide (po<0)=true:=decide_eq_true z2;have hv:V=4:=G3.out (by rw[r4];rfl);subst hv;clear HC HP G3 G4 G5 G0 KH KM KQ HA HL;go_wp2_with fail
    go_ret;exact⟨rfl,Ni⟩
   have r4:decide (po<0)=false:=decide_eq_false z2;by_cases z3:65535<po
   ·have r5:decide (po>65535)=true:=decide_eq_true z3;have hv:V=4:=G3.out (by rw[r4,show decide (65535<po)=true from r5];rfl);subst hv;clear HC HP G3 G4 G5 G0 KH KM KQ HA HL;go_wp2_with fail
    go_ret;exact⟨rfl,Ni⟩
   have r5:decide (po>65535)=false:=decide_eq_false z3;have HG3:=ah (show(decide (po<0)||decide (65535<po))=false by rw[r4,show decide (65535<po)=false from r5];rfl);clear G3;go_wp2_with fail
   refine(KH.out _).mono ?_;rintro e w2 ⟨rfl,rfl⟩;clear KH
   cases hp47
   rotate_left
   ·have hv:V=4:=G4.out rfl;subst hv;clear HC HP G4 G5 G0 KM KQ HA HL;go_wp2_with fail
    go_ret;exact⟨rfl,Ni⟩
   go_wp2_with fail
   refine(KM.out _ (hM.below Ni)).mono ?_;rintro e w2 ⟨rfl,M9⟩;have Nk:=bt Ni M9;have hB02:=bt hB01 M9;obtain⟨c0,c1,c2,c3,c4,c5⟩:=HC.out w2 hB02;clear KM d0 d1 d2 d3 d4 d5 M9
   cases mp
   ·have hv:V=4:=G4.out rfl;subst hv;clear HC HP G4 G5 G0 KQ HA HL;go_wp2_with fail
    go_ret;exact⟨rfl,Nk⟩
   clear G4;have hqq:(hq=false/\qb.toList.isEmpty=false)\/(!hq&&!qb.toList.isEmpty)=false:=by cases hq<;>cases qb.toList.isEmpty<;>simp
   rcases hqq with⟨rfl,y1⟩|y1
   ·have hv:V=4:=G5.out (by rw[y1];rfl);subst hv;clear HC HP G5 G0 KQ HA HL;go_wp2_with fail
    go_ret;exact⟨rfl,Nk⟩
   rw[y1]at G5 G0;have hqr:hq=true\/(hq=false/\qb.toList.isEmpty=true):=by cases hq<;>cases hx:qb.toList.isEmpty<;>simp[hx]at y1 ⊢
   clear y1;rcases hqr with rfl|⟨rfl,y2⟩
   all_goals
    go_wp2_with fail
    refine(KQ.out _ (hM.below Nk)).mono ?_;rintro e w3 ⟨rfl,Na⟩;have Nu:=bt Nk Na;have hB03:=bt hB02 Na;obtain⟨d0,d1,d2,d3,d4,d5⟩:=HC.out w3 hB03;clear KQ c0 c1 c2 c3 c4 c5 Na
    cases mq
    ·have hv:V=4:=G5.out rfl;subst hv;clear HC HP G5 G0 HA HL;go_wp2_with fail
     go_ret;exact⟨rfl,Nu⟩
    have hv:V=bif decide (1024<pq.size)then 3 else 0:=G0.out QX.out rfl HG3.out rfl rfl;have HV:=ah hv;clear G5 G0 hv HG3 QX;go_wp2_with fail
    go_loopw [63] (λi wr=>∃k:Nat,k<=hb.size/\i=.int .i64 k/\Below w.heap.size w wr/\Below W0.heap.size W0 wr) (λi _=>hb.size-(intOf i).toNat)
    case atStart=>exact⟨0,a_ _,rfl,Nu,hB03⟩
    case round=>
     clear d0 d1 d2 d3 d4 d5;obtain⟨k,hk,rfl,M_,hbw0⟩:=hrel;obtain⟨c0,c1,c2,c3,c4,c5⟩:=HC.out wr hbw0;by_cases Nc:k<hb.size
     ·have hx:=HA.out (by first|rfl|trivial) k Nc;have ki:=λW=>Tryz.strings_IndexByte Au (hb[k].toNat:Int) W
      rw[show((hb[k].toNat:Int)).toNat.toUInt8=hb[k] by simp,show(Au:ByteArray).data.toList=iZ from rfl]at ki;generalize Lib.indexByte iZ hb[k]=ix at*;have KI:=ah ki;clear ki HC HP HV;go_wp2_with fail
      refine(KI.out _).mono ?_;rintro e w4 ⟨rfl,rfl⟩;go_wp2_with fail
      go_roundw
      case rel=>exact⟨k+1,by omega,by go_num,M_,hbw0⟩
      case measure=>simp[intOf];omega
     ·have kp:=HP.out wr M_;have hl:=HL.out;clear HP HC HA;go_wp2_with fail
      refine kp.mono ?_;rintro e w4 ⟨rfl,Nf⟩;have Ny:=bt M_ Nf;have hv:=HV.out;clear HV HL;by_cases z5:1024<pq.size
      ·have r6:decide ((pq.size:Int)>1024)=true:=decide_eq_true (by omega);rw[decide_eq_true z5,cond_true]at hv;subst hv;go_wp2_with fail
       go_ret;exact⟨rfl,Ny⟩
      ·have r6:decide ((pq.size:Int)>1024)=false:=decide_eq_false (by omega);rw[decide_eq_false z5,cond_false]at hv;subst hv;go_wp2_with fail
       go_ret;exact⟨rfl,Ny⟩
  ·have hv:V=4:=G2.out (by rw[eQ hb z0];rfl);subst hv;have r1:hb.toList.isEmpty=true:=by rw[e2,eQ hb z0];rfl
   have r2:(hb.toList==[])=true:=by rw[e2,eQ hb z0];rfl
   have r0:hb.data=#[]:=by have:=eQ hb z0;simpa using this
   have r5:hb.data.isEmpty=true:=by rw[r0];rfl
   clear HC HP G2 G3 G4 G5 G0 KT KH KM KQ HA HTS HL;go_wp2_with fail
   go_ret;exact⟨rfl,Nm⟩
def gu(b:Nat)(sc ho:ByteArray)(po:Int)(pa qu:ByteArray)(hq:Bool)(w:World):Prop:=w.heap[b]?=some (.cells #[.string sc,.string ho,.int .i64 po,.string pa,.string qu,.bool hq] 93 (0,0))
section
variable {b:Nat}{sc ho pa qu:ByteArray}{po:Int}{hq:Bool}{w w':World}
theorem gu.below(h:gu b sc ho po pa qu hq w)(hb:Below w.heap.size w w'):gu b sc ho po pa qu hq w':=(hb.block b (ab h 0).2.2).trans h
theorem gu.cells(h:gu b sc ho po pa qu hq w):w.cell? ⟨b,0,none⟩=some (.string sc)/\w.cell? ⟨b,1,none⟩=some (.string ho)/\w.cell? ⟨b,2,none⟩=some (.int .i64 po)/\w.cell? ⟨b,3,none⟩=some (.string pa)/\w.cell? ⟨b,4,none⟩=some (.string qu)/\w.cell? ⟨b,5,none⟩=some (.bool hq):=⟨(ab h 0).1,(ab h 1).1,(ab h 2).1,(ab h 3).1,(ab h 4).1,(ab h 5).1⟩
theorem gu.free(h:gu b sc ho po pa qu hq w)(j:Nat):w.frozen? ⟨b,j,none⟩=false:=(ab h j).2.1
theorem gu.lt(h:gu b sc ho po pa qu hq w):b<w.heap.size:=(ab h 0).2.2
theorem gu.other{g j:Nat}{u:Value}(h:gu b sc ho po pa qu hq w)(Ng:b≠g):gu b sc ho po pa qu hq (w.setCell ⟨g,j,none⟩ u):=(fE _ _ _ _ Ng).trans h
theorem gu.s0{x:ByteArray}(h:gu b sc ho po pa qu hq w):gu b x ho po pa qu hq (w.setCell ⟨b,0,none⟩ (.string x)):=ar h
theorem gu.s1{x:ByteArray}(h:gu b sc ho po pa qu hq w):gu b sc x po pa qu hq (w.setCell ⟨b,1,none⟩ (.string x)):=ar h
theorem gu.s2{x:Int}(h:gu b sc ho po pa qu hq w):gu b sc ho x pa qu hq (w.setCell ⟨b,2,none⟩ (.int .i64 x)):=ar h
theorem gu.s3{x:ByteArray}(h:gu b sc ho po pa qu hq w):gu b sc ho po x qu hq (w.setCell ⟨b,3,none⟩ (.string x)):=ar h
theorem gu.s4{x:ByteArray}(h:gu b sc ho po pa qu hq w):gu b sc ho po pa x hq (w.setCell ⟨b,4,none⟩ (.string x)):=ar h
theorem gu.s5{x:Bool}(h:gu b sc ho po pa qu hq w):gu b sc ho po pa qu x (w.setCell ⟨b,5,none⟩ (.bool x)):=ar h
end
theorem vk(u:fg)(w:World)(hM:cq w)(hT:dV w)(hu:lI u):Calls Tryz.prog 40 #[dR u] w λe w'=>e=.returned (.string ⟨(pP u).toArray⟩)/\Below w.heap.size w w':=by
 have k1:=λW hb=>lS u W (hM.below hb) (hT.on hb) hu
 have k2:=λW hb=>Bc u W (hT.on hb) hu
 unfold pP;obtain⟨sc,ho,po,pa,qu,hq⟩:=u;unfold dR at*;simp only at*
 generalize cj ⟨sc,ho,po,pa,qu,hq⟩=c at*;generalize kV ⟨sc,ho,po,pa,qu,hq⟩=p at*;obtain⟨W0,Nb⟩:=bg w (.cells #[.string ⟨sc.toArray⟩,.string ⟨ho.toArray⟩,.int .i64 po,.string ⟨pa.toArray⟩,.string ⟨qu.toArray⟩,.bool hq] 93);have Nm:=bm Nb;have hA:gu w.heap.size ⟨sc.toArray⟩ ⟨ho.toArray⟩ po ⟨pa.toArray⟩ ⟨qu.toArray⟩ hq W0:=by rw[<-Nb];exact ay w _ _ rfl
 obtain⟨c0,c1,c2,c3,c4,c5⟩:=hA.cells;have kk:=k1 W0 Nm;obtain⟨Nl,HA,K1,K2⟩:=bK Nb hA kk k2;clear Nb hA k1 k2 kk;by_cases hc:c=0
 ·subst hc;rw[show((0:Int)==0)=true from rfl,cond_true];go_enter Tryz.func40,Tryz.ntmps40
  go_upto_region 1 with(fail)
  rw[Nl.out];go_wp2_with fail
  refine K1.out.mono ?_;rintro e w1 ⟨rfl,M8⟩;obtain⟨d0,d1,d2,d3,d4,d5⟩:=(HA.out.below M8).cells;have Ni:=bt Nm M8;have k2:=K2.out w1 Ni;clear K1 K2 c0 c1 c2 c3 c4 c5;go_wp2_with fail
  refine k2.mono ?_;rintro e w2 ⟨rfl,M9⟩;go_wp2_with fail
  go_ret;exact⟨rfl,bt Ni M9⟩
 ·have t1:(c==0)=false:=by simp;exact hc
  have t2:(c !=0)=true:=by simp;exact hc
  rw[t1,cond_false];go_enter Tryz.func40,Tryz.ntmps40
  go_upto_region 1 with(fail)
  rw[Nl.out];go_wp2_with fail
  refine K1.out.mono ?_;rintro e w1 ⟨rfl,M8⟩;go_wp2_with fail
  go_ret;exact⟨rfl,bt Nm M8⟩
theorem dX{B g:Nat}{w W:World}(h:Below B w W)(hg:B<=g)(v0 v1 v2 v3 v4 v5:Value):Below B w ((((((W.setCell ⟨g,0,none⟩ v0).setCell ⟨g,1,none⟩ v1).setCell ⟨g,2,none⟩ v2).setCell ⟨g,3,none⟩ v3).setCell ⟨g,4,none⟩ v4).setCell ⟨g,5,none⟩ v5):=(((((h.setCell (p:=⟨g,0,none⟩) hg _).setCell (p:=⟨g,1,none⟩) hg _).setCell (p:=⟨g,2,none⟩) hg _).setCell (p:=⟨g,3,none⟩) hg _).setCell (p:=⟨g,4,none⟩) hg _).setCell (p:=⟨g,5,none⟩) hg _
theorem gu.six{b:Nat}{sc ho pa qu:ByteArray}{po:Int}{hq:Bool}{w:World}(h:gu b sc ho po pa qu hq w)(x0 x1:ByteArray)(x2:Int)(x3 x4:ByteArray)(x5:Bool):gu b x0 x1 x2 x3 x4 x5 ((((((w.setCell ⟨b,0,none⟩ (.string x0)).setCell ⟨b,1,none⟩ (.string x1)).setCell ⟨b,2,none⟩ (.int .i64 x2)).setCell ⟨b,3,none⟩ (.string x3)).setCell ⟨b,4,none⟩ (.string x4)).setCell ⟨b,5,none⟩ (.bool x5)):=(((((h.s0).s1).s2).s3).s4).s5
def Hm(sc hp pa qu:List UInt8)(hq:Bool):fg × Int:=
 match vg hp with
 |none=>(fg.none,4)
 |some h=>bif cj ⟨sc,h.1,h.2,pa,qu,hq⟩==0 then(⟨sc,h.1,h.2,pa,qu,hq⟩,0)else(fg.none,cj ⟨sc,h.1,h.2,pa,qu,hq⟩)
def An(u:fg):fg × Int:=bif cj u==0 then(u,0)else(fg.none,cj u)
def LH(sc ho g1 g2 pa qu:List UInt8)(g3 hq:Bool):fg × Int:=
 bif !g3 then An ⟨sc,ho,0,pa,qu,hq⟩else
 match Lib.atoiAll g2 with
 |.ok n=>bif(Lib.itoa n !=g2)||decide (n<1)then(fg.none,4)else An ⟨sc,g1,n,pa,qu,hq⟩
 |_=>(fg.none,4)
theorem JY(sc ho pa qu:List UInt8)(hq:Bool):Hm sc ho pa qu hq=LH sc ho (Lib.cut ho [58]).1 (Lib.cut ho [58]).2.1 pa qu (Lib.cut ho [58]).2.2 hq:=by
 unfold Hm vg LH An;simp only
 cases(Lib.cut ho [58]).2.2
 ·rfl
 ·simp only[di,cond_false]
  cases Lib.atoiAll (Lib.cut ho [58]).2.1
  ·rename_i n;simp only;cases((Lib.itoa n !=(Lib.cut ho [58]).2.1)||decide (n<1))<;>rfl
  ·rfl
  ·rfl
theorem rH(s:ByteArray)(w:World)(hM:cq w)(hT:dV w)(hE:gD w)(hs:s.size<=1000000):Calls Tryz.prog 35 #[.string s] w λe w'=>e=.returned (.tuple #[dR (dD s.data.toList).1,.int .i64 (dD s.data.toList).2])/\Below w.heap.size w w':=by
 obtain⟨V,hV⟩:=aH (dD s.data.toList);rw[hV];unfold dD at hV;rw[<-aY]at hV;obtain⟨W1,Ne⟩:=bg w Kk;have Ni:=bm Ne;have NZ:W1.heap.size=w.heap.size+1:=by rw[<-Ne];simp
 have O_:gu w.heap.size ⟨#[]⟩ ⟨#[]⟩ 0 ⟨#[]⟩ ⟨#[]⟩ false W1:=by rw[<-Ne];exact ay w _ _ rfl
 have NC:=ah Ne;clear Ne;by_cases RB:1024<s.size
 ·have t1:decide ((s.size:Int)>1024)=true:=decide_eq_true (by omega);rw[decide_eq_true RB,cond_true]at hV;subst hV;obtain⟨c0,c1,c2,c3,c4,c5⟩:=O_.cells;have f0:=O_.free 0;have f1:=O_.free 1;have f2:=O_.free 2;have f3:=O_.free 3;have f4:=O_.free 4;have f5:=O_.free 5;go_enter Tryz.func35,Tryz.ntmps35
  go_upto_region 1 with(fail)
  rw[NC.out];go_wp2;have hr:=O_.six ⟨#[]⟩ ⟨#[]⟩ 0 ⟨#[]⟩ ⟨#[]⟩ false;obtain⟨b0,b1,b2,b3,b4,b5⟩:=hr.cells;refine bodyPost_ret_by (v:=.tuple #[dR fg.none,.int .i64 3]) ?_ rfl ⟨rfl,dX Ni (aw _) _ _ _ _ _ _⟩;unfold dR fg.none;simp[results,Tryz.results35,go_sem,b0,b1,b2,b3,b4,b5]
 have t1:decide ((s.size:Int)>1024)=false:=decide_eq_false (by omega);rw[decide_eq_false RB,cond_false]at hV;obtain⟨W2,Nw⟩:=bg W1 Kk;have Nk:Below w.heap.size w W2:=by rw[<-Nw];exact Ni.alloc (by omega) _
 have N3:gu w.heap.size ⟨#[]⟩ ⟨#[]⟩ 0 ⟨#[]⟩ ⟨#[]⟩ false W2:=by rw[<-Nw];exact O_.below ((aO _ _).alloc (aw _) _)
 have Vw:gu (w.heap.size+1) ⟨#[]⟩ ⟨#[]⟩ 0 ⟨#[]⟩ ⟨#[]⟩ false W2:=by rw[<-Nw];exact ay W1 _ _ NZ
 have Of:=ah Nw;clear Nw Ni O_;have k1:=iL s vP W2 (hM.below Nk) hs;rw[show(vP:ByteArray).data.toList=pH from rfl]at k1;have QK:=h_ s.data.toList pH;rw[<-aY]at QK;unfold oG at hV;simp only at hV
 generalize Lib.cut s.data.toList pH=c at*;obtain⟨x1,x2,x3⟩:=c;simp only at k1 hV QK
 have k2:=λW h=>iL ⟨x2.toArray⟩ ⟨#[63]⟩ W h (by rw[aR];omega)
 rw[bq,show(⟨#[63]⟩:ByteArray).data.toList=[63]from rfl]at k2;have PZ:=h_ x2 [63];generalize Lib.cut x2 [63]=d at*;obtain⟨y1,y2,y3⟩:=d;simp only at k2 hV PZ
 obtain⟨yb,rfl⟩:∃b:ByteArray,y1=b.data.toList:=⟨⟨y1.toArray⟩,rfl⟩;rw[<-aY]at PZ hV;simp only[bN]at k2;have ki:=λW=>Tryz.strings_IndexByte yb 47 W
 rw[show((47:Int)).toNat.toUInt8=47 from rfl]at ki;have ZT:=Lib.indexByte_ge yb.data.toList 47;have Sz:=Lib.index_room yb.data.toList [47];rw[Lib.index_one,<-aY]at Sz;generalize Lib.indexByte yb.data.toList 47=ix at*;obtain⟨K1,K2,KI⟩:=bu k1 k2 ki;clear k1 k2 ki;go_enter Tryz.func35,Tryz.ntmps35
 go_upto_region 1 with(fail)
 rw[NC.out];go_upto_region 5 with(fail)
 rw[Of.out];go_wp2_with fail
 refine K1.out.mono ?_;rintro e w3 ⟨rfl,Na⟩;have Tc:=Vw.below Na;have Qg:=N3.below Na;have Nu:=bt Nk Na;obtain⟨W4,Oz⟩:=aH (w3.setCell ⟨w.heap.size+1,0,none⟩ (.string ⟨x1.toArray⟩));have hU4:gu (w.heap.size+1) ⟨x1.toArray⟩ ⟨#[]⟩ 0 ⟨#[]⟩ ⟨#[]⟩ false W4:=by rw[<-Oz];exact Tc.s0
 have S4:gu w.heap.size ⟨#[]⟩ ⟨#[]⟩ 0 ⟨#[]⟩ ⟨#[]⟩ false W4:=by rw[<-Oz];exact Qg.other (by omega)
 have Ny:Below w.heap.size w W4:=by rw[<-Oz];exact Nu.setCell (by show _<=w.heap.size+1;omega) _
 have k2:=K2.out W4 (hM.below Ny);obtain⟨c0,-,-,-,-,-⟩:=Tc.cells;have f0:=Tc.free 0;have Ri:=ah Oz;clear Oz K1 K2 NC Of Tc Qg Nu Vw N3 Nk Na NZ;go_wp2_with fail
 rw[Ri.out];refine k2.mono ?_;rintro e w5 ⟨rfl,Ns⟩;have hU5:=hU4.below Ns;have Xq:=S4.below Ns;have Oh:=bt Ny Ns;obtain⟨W6,N0⟩:=aH ((w5.setCell ⟨w.heap.size+1,4,none⟩ (.string ⟨y2.toArray⟩)).setCell ⟨w.heap.size+1,5,none⟩ (.bool y3));have SW:gu (w.heap.size+1) ⟨x1.toArray⟩ ⟨#[]⟩ 0 ⟨#[]⟩ ⟨y2.toArray⟩ y3 W6:=by rw[<-N0];exact hU5.s4.s5
 have hR6:gu w.heap.size ⟨#[]⟩ ⟨#[]⟩ 0 ⟨#[]⟩ ⟨#[]⟩ false W6:=by rw[<-N0];exact(Xq.other (by omega)).other (by omega)
 have Ow:Below w.heap.size w W6:=by rw[<-N0];exact(Oh.setCell (by show _<=w.heap.size+1;omega) _).setCell (by show _<=w.heap.size+1;omega) _
 obtain⟨-,-,-,-,c4,c5⟩:=hU5.cells;have f4:=hU5.free 4;have f5:=hU5.free 5;have PR:=ah N0;clear N0 k2 c0 f0 Ri hU5 Xq Oh Ns hU4 S4 Ny;go_wp2_with fail
 rw[PR.out];refine(KI.out _).mono ?_;rintro e w7 ⟨rfl,rfl⟩;clear KI c4 c5 f4 f5 PR
 have hpar:∀k:Nat,(bif decide (ix<0)then yb.size else ix.toNat)=k->Hm x1 (yb.data.toList.take k) (bif(yb.data.toList.drop k).isEmpty then [47]else yb.data.toList.drop k) y2 y3=V:=λk h=>by
  rw[<-hV,<-h];unfold Hm;generalize vg (List.take (bif decide (ix<0)then yb.size else ix.toNat) yb.data.toList)=P
  cases P<;>rfl
 have HPAR:=ah hpar;clear hV hpar;go_upto_if 35 with(fail)
 go_cut [6] (λs6 wx=>∃k:Nat,s6=.int .i64 k/\k<=yb.size/\wx=w7/\Hid ((bif decide (ix<0)then yb.size else ix.toNat)=k))
 case first=>
  by_cases hix:ix<0
  ·have t2:decide (ix<0)=true:=decide_eq_true hix;have HK:Hid ((bif decide (ix<0)then yb.size else ix.toNat)=yb.size):=am (by rw[t2];rfl);go_wp2_with fail
   go_meet;exact⟨yb.size,rfl,aw _,rfl,HK⟩
  ·have t2:decide (ix<0)=false:=decide_eq_false hix;have HK:Hid ((bif decide (ix<0)then yb.size else ix.toNat)=ix.toNat):=am (by rw[t2];rfl);have hk:ix.toNat<=yb.size:=by have:=Sz (by omega);simp at this;omega
   obtain⟨j,rfl⟩:∃j:Nat,ix=(j:Int):=⟨ix.toNat,by omega⟩;go_wp2_with fail
   go_meet;exact⟨(j:Int).toNat,by simp,hk,rfl,HK⟩
 case rest=>
  obtain⟨k,rfl,hk,rfl,HK⟩:=hcut;have hV:=HPAR.out k HK.out;clear HPAR HK ZT Sz;obtain⟨q0,q1,q2,q3,q4,q5⟩:=SW.cells;have f1:=SW.free 1;have f3:=SW.free 3;have n1:(k:Int)<=yb.size:=by omega
  go_upto_region 10 with(fail)
  go_region
  obtain⟨W8,Q6⟩:=aH (((wc.setCell ⟨w.heap.size+1,1,none⟩ (.string (yb.extract 0 k))).setCell ⟨w.heap.size+1,3,none⟩ (.string (yb.extract k yb.size))).drew);have hU8:gu (w.heap.size+1) ⟨x1.toArray⟩ (yb.extract 0 k) 0 (yb.extract k yb.size) ⟨y2.toArray⟩ y3 W8:=by rw[<-Q6];exact SW.s1.s3
  have hR8:gu w.heap.size ⟨#[]⟩ ⟨#[]⟩ 0 ⟨#[]⟩ ⟨#[]⟩ false W8:=by rw[<-Q6];exact(hR6.other (by omega)).other (by omega)
  have TY:Below w.heap.size w W8:=by rw[<-Q6];exact((Ow.setCell (by show _<=w.heap.size+1;omega) _).setCell (by show _<=w.heap.size+1;omega) _).drew
  rw[Q6];clear Q6 q0 q1 q2 q3 q4 q5 f1 f3 SW hR6 Ow;have T8:(yb.extract 0 k).data.toList=yb.data.toList.take k:=by rw[eD];simp
  have Xn:(yb.extract k yb.size).data.toList=yb.data.toList.drop k:=fe yb k;rw[<-T8,<-Xn]at hV;have NZ:(yb.extract 0 k).size<=1000000:=by rw[eu];omega
  have N6:(yb.extract k yb.size).size<=1000000:=by rw[eu];omega
  generalize yb.extract 0 k=hob at*;generalize yb.extract k yb.size=pab at*;have RH:=PZ.2;clear T8 Xn PZ n1 hk;obtain⟨-,-,-,q3,-,-⟩:=hU8.cells;have f3:=hU8.free 3;have HV:=ah hV;clear hV;go_upto_if 48 with(fail)
  go_cut [] (λwx=>∃pa:ByteArray,gu (w.heap.size+1) ⟨x1.toArray⟩ hob 0 pa ⟨y2.toArray⟩ y3 wx/\gu w.heap.size ⟨#[]⟩ ⟨#[]⟩ 0 ⟨#[]⟩ ⟨#[]⟩ false wx/\Below w.heap.size w wx/\pa.size<=1000000/\Hid (Hm x1 hob.data.toList pa.data.toList y2 y3=V))
  case first=>
   have hv:=HV.out;clear HV;by_cases z0:0<pab.size
   ·have r1:pab.toList.isEmpty=false:=by rw[dY];exact fh pab z0
    have r0:¬pab.data=#[]:=λh=>by have:=fh pab z0;rw[h]at this;cases this
    have r5:pab.data.isEmpty=false:=by simpa using r0
    rw[fh pab z0,cond_false]at hv;have HV:=ah hv;clear hv;have r6:pab.toList.isEmpty=true->False:=λh=>by rw[r1]at h;cases h
    go_wp2_with fail
    all_goals first|(exfalso;exact r6 (by assumption))|(go_meet;exact⟨pab,hU8,hR8,TY,N6,HV⟩)
   ·have r0:pab.data=#[]:=by have:=eQ pab z0;simpa using this
    have r5:pab.data.isEmpty=true:=by rw[r0];rfl
    rw[eQ pab z0,show([]:List UInt8).isEmpty=true from rfl,cond_true]at hv;have HV:=ah hv;clear hv;have r6:pab.toList.isEmpty=false->False:=λh=>by rw[dY,eQ pab z0]at h;cases h
    go_wp2_with fail
    all_goals first|(exfalso;exact r6 (by assumption))|(go_meet;exact⟨ip,hU8.s3,hR8.other (by omega),TY.setCell (by show _<=w.heap.size+1;omega) _,by decide,HV⟩)
  case rest=>
   clear hU8 hR8 TY HV q3 f3 N6;obtain⟨pa,hU,hR,hB,N6,HV⟩:=hcut;have k3:=iL hob qz wc (hM.below hB) NZ;rw[show(qz:ByteArray).data.toList=[58]from rfl]at k3;obtain⟨-,q1,-,-,-,-⟩:=hU.cells;have hv:=HV.out;rw[JY]at hv;have QK:=h_ hob.data.toList [58];rw[<-aY]at QK;generalize Lib.cut hob.data.toList [58]=c at*;obtain⟨g1,g2,g3⟩:=c;simp only at hv k3 QK
   have K3:=ah k3;clear k3 HV;go_wp2_with fail
   refine K3.out.mono ?_;rintro e w9 ⟨rfl,NL⟩;have hU9:=hU.below NL;have YC:=hR.below NL;have OP:=bt hB NL;clear K3 hU hR hB NL q1;have HV:=ah hv;clear hv;go_upto_if 57 with(fail)
   go_cut [] (λwx=>∃(ho:ByteArray) (po:Int),gu (w.heap.size+1) ⟨x1.toArray⟩ ho po pa ⟨y2.toArray⟩ y3 wx/\gu w.heap.size ⟨#[]⟩ ⟨#[]⟩ 0 ⟨#[]⟩ ⟨#[]⟩ false wx/\Below w.heap.size w wx/\ho.size<=1000000/\(-9223372036854775808<=po/\po<=9223372036854775807)/\Hid (An ⟨x1,ho.data.toList,po,pa.data.toList,y2,y3⟩=V))
   case first=>
    have hv:=HV.out;unfold LH at hv;clear HV
    cases g3
    ·rw[iC,cond_true]at hv;have HV:=ah hv;clear hv;go_wp2_with fail
     go_meet;exact⟨hob,0,hU9,YC,OP,NZ,by omega,HV⟩
    ·rw[di,cond_false]at hv;have ka:=sG ⟨g2.toArray⟩ w9 (hE.below OP) (by rw[aR];omega);rw[bq]at ka;unfold mB Ik at ka;obtain⟨e0,e1,e2,e3,e4,e5⟩:=YC.cells
     cases PB:Lib.atoiAll g2 with
     |ok n=>
      rw[PB]at ka hv;simp only at ka hv
      have TJ:=Lib.atoiAll_bounds PB;have ki:=λW h=>oR n TJ.1 TJ.2 W h
      obtain⟨KA,KI⟩:=az ka ki;clear ka ki;go_wp2_with fail
      refine KA.out.mono ?_;rintro e wa ⟨v,rfl,Od,YN⟩;have Rh:v=.nilIface:=by unfold LL at Od;rw[if_pos rfl]at Od;exact Od
      subst Rh;clear Od KA;have hUa:=hU9.below YN;have hRa:=YC.below YN;have hBa:=bt OP YN;have ki:=KI.out wa (hT.on hBa);clear KI;go_wp2_with fail
      refine ki.mono ?_;rintro e wb ⟨rfl,Sl⟩;have hUb:=hUa.below Sl;have Rm:=hRa.below Sl;have RQ:=bt hBa Sl;clear ki hUa hRa hBa YN Sl hU9 YC OP e0 e1 e2 e3 e4 e5;obtain⟨e0,e1,e2,e3,e4,e5⟩:=Rm.cells;have f0:=Rm.free 0;have f1:=Rm.free 1;have f2:=Rm.free 2;have f3:=Rm.free 3;have f4:=Rm.free 4;have f5:=Rm.free 5;by_cases Ng:Lib.itoa n=g2
      ·have q1:(Lib.itoa n==g2)=true:=by simpa using Ng
       have q2:(Lib.itoa n !=g2)=false:=by simpa using Ng
       by_cases XL:n<1
       ·have q3:decide (n<1)=true:=decide_eq_true XL;rw[q3,Bool.or_true,cond_true]at hv;subst hv;go_wp2_with fail
        have hr:=Rm.six ⟨#[]⟩ ⟨#[]⟩ 0 ⟨#[]⟩ ⟨#[]⟩ false;obtain⟨b0,b1,b2,b3,b4,b5⟩:=hr.cells;refine bodyPost_ret_by (v:=.tuple #[dR fg.none,.int .i64 4]) ?_ rfl ⟨rfl,dX RQ (aw _) _ _ _ _ _ _⟩;unfold dR fg.none;simp[results,Tryz.results35,go_sem,b0,b1,b2,b3,b4,b5]
       ·have q3:decide (n<1)=false:=decide_eq_false XL;rw[q2,q3,mU,cond_false]at hv;have HV:=ah hv;obtain⟨p0,p1,p2,p3,p4,p5⟩:=hUb.cells;have g1f:=hUb.free 1;have g2f:=hUb.free 2;clear hv;go_wp2_with fail
        go_meet;exact⟨⟨g1.toArray⟩,n,hUb.s1.s2,(Rm.other (by omega)).other (by omega),(RQ.setCell (by show _<=w.heap.size+1;omega) _).setCell (by show _<=w.heap.size+1;omega) _,by rw[aR];omega,TJ,HV⟩
      ·have q1:(Lib.itoa n==g2)=false:=by simpa using Ng
       have q2:(Lib.itoa n !=g2)=true:=by simpa using Ng
       rw[q2,iY,cond_true]at hv;subst hv;go_wp2_with fail
       have hr:=Rm.six ⟨#[]⟩ ⟨#[]⟩ 0 ⟨#[]⟩ ⟨#[]⟩ false;obtain⟨b0,b1,b2,b3,b4,b5⟩:=hr.cells;refine bodyPost_ret_by (v:=.tuple #[dR fg.none,.int .i64 4]) ?_ rfl ⟨rfl,dX RQ (aw _) _ _ _ _ _ _⟩;unfold dR fg.none;simp[results,Tryz.results35,go_sem,b0,b1,b2,b3,b4,b5]
     |_=>
      rw[PB]at ka hv;simp only at ka hv
      subst hv;have KA:=ah ka;clear ka;go_wp2_with fail
      refine KA.out.mono ?_;rintro e wa ⟨v,rfl,Od,YN⟩;obtain⟨t,N,rfl⟩:∃t N,v=.iface t (.pointer (some ⟨N,0,none⟩)):=by unfold LL at Od;rw[if_neg (by decide)]at Od;exact Od
      have Rm:=YC.below YN;have RQ:=bt OP YN;clear Od KA hU9 YC OP e0 e1 e2 e3 e4 e5;obtain⟨e0,e1,e2,e3,e4,e5⟩:=Rm.cells;have f0:=Rm.free 0;have f1:=Rm.free 1;have f2:=Rm.free 2;have f3:=Rm.free 3;have f4:=Rm.free 4;have f5:=Rm.free 5;go_wp2_with fail
      have hr:=Rm.six ⟨#[]⟩ ⟨#[]⟩ 0 ⟨#[]⟩ ⟨#[]⟩ false;obtain⟨b0,b1,b2,b3,b4,b5⟩:=hr.cells;refine bodyPost_ret_by (v:=.tuple #[dR fg.none,.int .i64 4]) ?_ rfl ⟨rfl,dX RQ (aw _) _ _ _ _ _ _⟩;unfold dR fg.none;simp[results,Tryz.results35,go_sem,b0,b1,b2,b3,b4,b5]
   case rest=>
    clear hU9 YC OP HV;obtain⟨ho,po,hU,hR,hB,VF,Wp,HV⟩:=hcut;have kc:=lS ⟨x1,ho.data.toList,po,pa.data.toList,y2,y3⟩ wc (hM.below hB) (hT.on hB) ⟨by show x1.length<=_;omega,by show ho.data.toList.length<=_;rw[<-aY];exact VF,Wp,by show pa.data.toList.length<=_;rw[<-aY];exact N6,by show y2.length<=_;omega⟩;have hv:=HV.out;unfold An at hv;unfold dR at kc;simp only[bN]at kc;generalize cj ⟨x1,ho.data.toList,po,pa.data.toList,y2,y3⟩=ck at*;obtain⟨e0,e1,e2,e3,e4,e5⟩:=hU.cells;have KC:=ah kc;clear kc HV;go_wp2_with fail
    refine KC.out.mono ?_;rintro e wd ⟨rfl,QQ⟩;have hUd:=hU.below QQ;have Ua:=hR.below QQ;have RF:=bt hB QQ;clear KC hU hR hB QQ e0 e1 e2 e3 e4 e5;obtain⟨e0,e1,e2,e3,e4,e5⟩:=Ua.cells;obtain⟨p0,p1,p2,p3,p4,p5⟩:=hUd.cells;have f0:=Ua.free 0;have f1:=Ua.free 1;have f2:=Ua.free 2;have f3:=Ua.free 3;have f4:=Ua.free 4;have f5:=Ua.free 5;by_cases Sa:ck=0
    ·subst Sa;rw[show((0:Int)==0)=true from rfl,cond_true]at hv;subst hv;go_wp2_with fail
     have hr:=Ua.six ⟨x1.toArray⟩ ho po pa ⟨y2.toArray⟩ y3;obtain⟨b0,b1,b2,b3,b4,b5⟩:=hr.cells;refine bodyPost_ret_by (v:=.tuple #[dR ⟨x1,ho.data.toList,po,pa.data.toList,y2,y3⟩,.int .i64 0]) ?_ rfl ⟨rfl,dX RF (aw _) _ _ _ _ _ _⟩;unfold dR;simp[results,Tryz.results35,go_sem,b0,b1,b2,b3,b4,b5]
    ·have q1:(ck==0)=false:=by simpa using Sa
     have q2:(ck !=0)=true:=by simpa using Sa
     rw[q1,cond_false]at hv;subst hv;go_wp2_with fail
     have hr:=Ua.six ⟨#[]⟩ ⟨#[]⟩ 0 ⟨#[]⟩ ⟨#[]⟩ false;obtain⟨b0,b1,b2,b3,b4,b5⟩:=hr.cells;refine bodyPost_ret_by (v:=.tuple #[dR fg.none,.int .i64 ck]) ?_ rfl ⟨rfl,dX RF (aw _) _ _ _ _ _ _⟩;unfold dR fg.none;simp[results,Tryz.results35,go_sem,b0,b1,b2,b3,b4,b5]
def qM(bs:List Nat)(w w':World):Prop:=w.heap.size<=w'.heap.size/\∀b∈bs,w'.heap[b]?=w.heap[b]?
theorem qM.trans{bs:List Nat}{a b c:World}(h:qM bs a b)(k:qM bs b c):qM bs a c:=⟨bj h.1 k.1,λi hi=>(k.2 i hi).trans (h.2 i hi)⟩
theorem qM.refl(bs:List Nat)(w:World):qM bs w w:=⟨aw _,λ_ _=>rfl⟩
theorem qM.putObj{bs:List Nat}{w:World}{l:Nat}(o:Obj)(hl:∀b∈bs,b<l):qM bs w (w.putObj l o):=⟨by simp,λb hb=>World.putObj_heap_other (by have:=hl b hb;omega)⟩
theorem qM.below{bs:List Nat}{w w':World}(h:Below w.heap.size w w')(hb:∀b∈bs,b<w.heap.size):qM bs w w':=⟨h.size,λb hm=>h.block b (hb b hm)⟩
theorem qM.set{bs:List Nat}{w:World}{b j:Nat}{v:Value}(h:b ∉ bs):qM bs w (w.setCell ⟨b,j,none⟩ v):=⟨by simp,λk hk=>fE _ _ _ _ (λe=>h (by have e:k=b:=e;rw[<-e];exact hk))⟩
section
variable {F:Fence}{n:Nat}{P:Program}
def Mi{α:Type}(F:Fence)(n:Nat)(P:Program)(g:Nat)(lb:Array Value)(TA:α->Array Value)(bs:List Nat)(Cb:Nat)(ys:List α)(w:World):Prop:=
 ∀(l:Nat)(J:List α->World->Prop)(W:World),Below w.heap.size w W->AbidesFrom W.heap.size J->(∀pre A v,J pre A->J pre (A.setCell ⟨Cb,0,none⟩ v)) ->
  (∀pre x A,J pre A->pre.length<ys.length->YieldAt F (n-1) P l (TA x) A λe B=>e=.returned (.bool true)/\J (pre++[x]) B/\qM bs A B) ->
  J [] W ->
  CallsIn F n P g (#[.func (.yield l) #[] #[]]++lb) W λe B=>(∃v,e=.returned v)/\J ys B
theorem EO{α:Type}{g:Operand}{ps:Array Tmp}{assign body:Code}{Q:Exit->Act->World->Prop}{a:Act}{w:World}(Vz:F.round=none)(h1:1<=n){gf:Nat}{lb:Array Value}(hg:a.eval g=.func (.func gf) #[] lb)(hFg:F.fn gf)(eg:∀args w,(callFunc gf args).run P w=.ok (.enter gf args) w){TA:α->Array Value}{bs:List Nat}{Cb:Nat}{ys:List α}(VV:Mi F (n-1) P gf lb TA bs Cb ys w)(N9:∀b∈bs,b<w.heap.size)(hCb:Cb<w.heap.size)(Pb:∀x,(TA x).size=ps.size)(I:List α->World->Prop)(hI:OwnFrom w.heap.size I)(hIc:∀pre A v,I pre A->I pre (A.setCell ⟨Cb,0,none⟩ v))(h0:I [] w)(Ax:α->Act->World->Prop)(hAx:∀x a',OwnFrom w.heap.size (λ(_:Unit)W=>Ax x a' W))(hassign:∀(l:Nat) (pre:List α) (x:α) (W:World) (K:Act->World->Prop),I pre W->(∀a' W',KeepsFrom w.heap.size W W'->qM bs W W'->I pre W'->Ax x a' W'->K a' W') ->assign.wpIn (F.inRound l) (n-1-1) P (Exit.then K (λ_ _ _=>False)) { tmps:=(ps.zip (TA x)).foldl (λt(p,v)=>t.setIfInBounds p v) a.tmps,defers:=[] } W)(hbody:∀(l:Nat)(pre:List α)(x:α)(a':Act)(W:World),w.heap.size<=l->I pre W->Ax x a' W->pre.length<ys.length->body.wpIn (F.inRound l) (n-1-1) P (Exit.then (λ_ W'=>KeepsFrom w.heap.size W W'/\qM bs W W'/\I (pre++[x]) W') (λ_ _ _=>False)) a' W)(hdone:∀(D:Nat)(W:World),w.heap.size<=D->I ys W->W.heap[D]?=some (.deferred (some []))->Q .normal { a with defers:={ target:=.collected D,args:=#[] }::a.defers } W):(Code.rangeFunc g ps assign body).wpIn F n P Q a w:=by
 refine wpIn_rangeFunc ?_;intro fn Ub;rw[Vz];obtain⟨rec,Rn⟩:∃rec:LoopState->Option Code->Loop,rec=λst pe=>{ state:=st,pending:=pe,fn,tmps:=a.tmps,params:=ps,assign,body,defers:=w.heap.size }:=⟨_,rfl⟩
 obtain⟨W1,Ne⟩:=aH ((w.alloc (.deferred (some []))).alloc (.loop (rec .ready none)))
 have hL1:W1.heap[w.heap.size+1]?=some (.loop (rec .ready none)):=by rw[<-Ne];have:=World.alloc_heap_new (w.alloc (.deferred (some []))) (.loop (rec .ready none));rwa [World.size_alloc]at this
 have hK1:W1.heap[w.heap.size]?=some (.deferred (some [])):=by rw[<-Ne];exact(gG _ _ _ (by simp)).trans (World.alloc_heap_new w _)
 have NJ:I [] W1:=by rw[<-Ne];exact hI.alloc _ (hI.alloc _ h0)
 have M8:Below w.heap.size w W1:=by rw[<-Ne];exact((aO _ w).alloc (aw _) _).alloc (by simp) _
 refine⟨w.heap.size+1,[{ target:=.collected w.heap.size,args:=#[] }],W1,{ target:=.fn (.func gf) lb,args:=#[.func (.yield (w.heap.size+1)) #[] #[]] },W1,gf,
  #[.func (.yield (w.heap.size+1)) #[] #[]]++lb,W1,?_,?_,?_,?_,λ_=>h1,?_⟩
 ·rw[<-Ne,Rn];exact run_enterLoop_outer _ _ _ _ _
 ·simp only[resolve,hg];simp[go_sem]
 ·intro f' hf';simp[Target.leads]at hf';subst hf';exact hFg
 ·simp[invoke,go_sem,eg]
 ·have hnw:∀{A:World}{row:Option Nat},(∀r,row=some r->W1.heap.size<=r/\∃o:Obj,A.heap[r]?=some o/\o.isWalk=true)->(∀r,row=some r->w.heap.size<=r/\∃o:Obj,A.heap[r]?=some o/\o.isCells=false):=
   λhr r e=>by obtain⟨hB,o,ho,hw⟩:=hr r e;exact⟨by rw[<-Ne]at hB;simp at hB;omega,o,ho,Obj.not_cells_of_walk hw⟩
  refine (VV (w.heap.size+1)
   (λpre W=>I pre W/\W.heap[w.heap.size+1]?=some (.loop (rec .ready none))/\W.heap[w.heap.size]?=some (.deferred (some [])))
   W1 M8
   (λs A B row hs hg' hr=>⟨hI s A B row hs.1 hg' (hnw hr),(grownBy_keeps hg' (λr e=>(hr r e).2) hs.2.1 rfl).trans hs.2.1,(grownBy_keeps hg' (λr e=>(hr r e).2) hs.2.2 rfl).trans hs.2.2⟩)
   (λpre A v hs=>⟨hIc pre A v hs.1,(fE _ _ _ _ (by show _≠Cb;omega)).trans hs.2.1,(fE _ _ _ _ (by show _≠Cb;omega)).trans hs.2.2⟩)
   ?_ ⟨NJ,hL1,hK1⟩).mono ?_
  ·rintro pre x W ⟨hi,hl,hk⟩ hlen;have Nc:w.heap.size+1<W.heap.size:=(Array.getElem?_eq_some_iff.1 hl).1;have hy:=run_yield (P:=P) (args:=TA x) hl (by rw[Rn];exact Pb x);rw[Rn]at hy;refine⟨fn,_,assign,body,hy,roundIn_of_wpIn Ub (hassign _ pre x W _ hi ?_)⟩;clear hy;intro a' Wa hkfa hkpa hia hax
   replace hl:=hkfa.same _ _ (by omega) hl rfl
   replace hk:=hkfa.same _ _ (aw _) hk rfl
   replace Nc:w.heap.size+1<Wa.heap.size:=(Array.getElem?_eq_some_iff.1 hl).1
   refine⟨_,run_beginRound hl (by rw[Rn]),?_⟩;have Nq:(Wa.putObj (w.heap.size+1) (.loop { rec .ready none with state:=.busy })).heap[w.heap.size+1]?=some (.loop { rec .ready none with state:=.busy }):=World.putObj_heap_same Nc;have OA:(Wa.putObj (w.heap.size+1) (.loop { rec .ready none with state:=.busy })).heap[w.heap.size]?=some (.deferred (some [])):=(World.putObj_heap_other (by omega)).trans hk;have OU:qM bs Wa (Wa.putObj (w.heap.size+1) (.loop { rec .ready none with state:=.busy })):=qM.putObj _ (λb hb=>by have:=N9 b hb;omega);refine wpIn_mono (hbody _ pre x a' _ (by omega) (hI.putObj _ hia (by omega) hl rfl) ((hAx x a').putObj (s:=()) _ hax (by omega) hl rfl) hlen) ?_;rintro e a3 W3 hp
   cases e with
   |normal=>
    obtain⟨QU,hkp3,Yx⟩:=hp;have QD:=QU.same _ _ (by omega) Nq rfl;have hr:=run_endRound (P:=P) none QD;rw[Rn]at hr;rw[Rn]at QD;refine⟨_,_,hr,rfl,⟨hI.putObj _ Yx (by omega) QD rfl,?_,(World.putObj_heap_other (by omega)).trans (QU.same _ _ (aw _) OA rfl)⟩,hkpa.trans ((OU.trans hkp3).trans (qM.putObj _ (λb hb=>by have:=N9 b hb;omega)))⟩;rw[Rn];exact World.putObj_heap_same (Array.getElem?_eq_some_iff.1 QD).1
   |ret=>exact hp.elim
   |exit id=>exact hp.elim
   |goto t=>exact hp.elim
   |panic ch=>exact hp.elim
   |outgrown=>exact hp.elim
  ·rintro e W2 ⟨⟨v,rfl⟩,hi,hl,hk⟩;exact⟨none,_,by have:=run_endLoop (P:=P) hl (by rw[Rn];simp);rw[Rn]at this;exact this,hdone _ _ (aw _) (hI.putObj _ hi (by omega) hl rfl) ((World.putObj_heap_other (by omega)).trans hk)⟩
end
theorem oe:∀(n:Nat)(s:List UInt8),s.length<=n->(cU s).2=true ->
  aT (cU s).1=s.length/\∀p∈(cU s).1,(∃c,p=[c]/\c≠37)\/∃a b,p=[37,a,b]/\eO a=true/\eO b=true
 |_,[],_,_=>⟨rfl,λp hp=>by simp[cU]at hp⟩
 |0,c::r,h,_=>by simp at h
 |n+1,c::r,hn,h=>by
  rw[cg]at hn
  cases hc:(c==37)
  ·have e:cU (c::r)=([c]::(cU r).1,(cU r).2):=by
    conv=>lhs;unfold cU
    rw[hc];rfl
   rw[e]at h ⊢;obtain⟨h1,h2⟩:=oe n r (by omega) h;refine⟨by unfold aT at*;rw[bw,dG,h1];simp;omega,λp hp=>?_⟩;rcases cZ.1 hp with rfl|hp
   ·exact Or.inl ⟨c,rfl,by simpa using hc⟩
   ·exact h2 p hp
  ·have RZ:c=37:=by simpa using hc
   subst RZ
   match r,hn,h with
   | [],_,h=>simp[cU]at h
   | [_],_,h=>simp[cU]at h
   |a::b::t,hn,h=>
    cases hh:(eO a&&eO b)
    ·have e:cU (37::a::b::t)=([],false):=by rw[cU];simp[hh]
     rw[e]at h;cases h
    ·have e:cU (37::a::b::t)=([37,a,b]::(cU t).1,(cU t).2):=by rw[cU];simp[hh]
     rw[e]at h ⊢;simp only[cg]at hn;obtain⟨h1,h2⟩:=oe n t (by omega) h;simp at hh
     refine⟨by unfold aT at*;rw[bw,dG,h1];simp;omega,λp hp=>?_⟩;rcases cZ.1 hp with rfl|hp
     ·exact Or.inr ⟨a,b,rfl,hh.1,hh.2⟩
     ·exact h2 p hp
theorem IB{set:List UInt8}(hs:set.all (fq fv)=true){c:UInt8}(h:set.contains c=true):fq fv c=true:=dH.1 hs c (List.contains_iff_mem.1 h)
theorem JV:∀n:Fin 256,eO (UInt8.ofNat n.val)=true->fq fv (uf (UInt8.ofNat n.val))=true:=by decide +kernel
theorem IX{c:UInt8}(h:eO c=true):fq fv (uf c)=true:=by have:=JV ⟨c.toNat,c.toNat_lt⟩;simp only[UInt8.ofNat_toNat]at this;exact this h
theorem Ek:gR.all (fq fv)=true:=by decide +kernel
theorem yC:kQ.all (fq fv)=true:=by decide +kernel
theorem EN:jH.all (fq fv)=true:=by decide +kernel
theorem CQ{set p:List UInt8}(hs:set.all (fq fv)=true)(h:(∃c,p=[c]/\c≠37)\/∃a b,p=[37,a,b]/\eO a=true/\eO b=true)(hg:iB set p=true):(kI p).length<=p.length/\aZ fv (kI p)=true:=by
 rcases h with⟨c,rfl,hc⟩|⟨a,b,rfl,ha,hb⟩
 ·refine⟨aw _,?_⟩;unfold iB at hg;simp at hg
  show [c].all (fq fv)=true
  rw[jh,IB hs (List.contains_iff_mem.2 hg)];rfl
 ·unfold kI;simp only
  cases hp:gR.contains (UInt8.ofNat (16*gE a+gE b))
  ·refine⟨aw _,?_⟩;show [37,uf a,uf b].all (fq fv)=true
   rw[jh,jh,jh,IX ha,IX hb];rfl
  ·refine⟨by simp,?_⟩;rw[cond_true];show List.all _ (fq fv)=true
   rw[jh,IB Ek hp];rfl
theorem Cl(l:List (List UInt8))(f:List UInt8->List UInt8)(h:∀p∈l,(f p).length<=p.length/\aZ fv (f p)=true):(l.flatMap f).length<=aT l/\aZ fv (l.flatMap f)=true:=by
 induction l with
 |nil=>exact⟨aw _,rfl⟩
 |cons p r ih=>
  obtain⟨h1,h2⟩:=ih (λq hq=>h q (by simp[hq]));obtain⟨h3,h4⟩:=h p (by simp);rw[jk];refine⟨by unfold aT at*;rw[bP,bw,dG];omega,?_⟩;unfold aZ at*;rw[n7,h4,h2];rfl
theorem pX{s set:List UInt8}(hs:set.all (fq fv)=true)(h:kT s set=true):(iD s).length<=s.length/\aZ fv (iD s)=true:=by unfold kT at h;rw[eA]at h;obtain⟨h1,h2⟩:=oe _ s (aw _) h.1;rw[<-h1];exact Cl _ _ (λp hp=>CQ hs (h2 p hp) (dH.1 h.2 p hp))
theorem iQ:∀s:List UInt8,aT (bO s)+(bO s).length=s.length+1/\bO s≠[]/\(aZ fv s=true->∀p∈bO s,aZ fv p=true)
 | []=>⟨rfl,by simp[bO],λ_ p hp=>by simp[bO]at hp;subst hp;rfl⟩
 |c::r=>by
  obtain⟨h1,h2,h3⟩:=iQ r;rw[bO]
  cases hc:(c==47)
  ·rw[cond_false]
   cases hs:bO r with
   |nil=>exact absurd hs h2
   |cons p q=>
    rw[hs]at h1 h3;refine⟨?_,by simp,?_⟩
    ·unfold aT at*;simp only[bw,dG,cg]at*;omega
    ·intro hv x hx;unfold aZ at hv;rw[jh,eA]at hv;have h4:=h3 hv.2;rcases cZ.1 hx with rfl|hx
     ·unfold aZ;rw[jh,hv.1];exact h4 p (by simp)
     ·exact h4 x (by simp[hx])
  ·rw[cond_true];refine⟨?_,by simp,?_⟩
   ·unfold aT at*;simp only[bw,dG,cg,ic]at*;omega
   ·intro hv x hx;unfold aZ at hv;rw[jh,eA]at hv;rcases cZ.1 hx with rfl|hx
    ·rfl
    ·exact h3 hv.2 x hx
def eL(ls:List (List UInt8)):Nat:=aT ls+ls.length
theorem vL(ls:List (List UInt8))(p:List UInt8):eL (ls++[p])=eL ls+p.length+1:=by unfold eL aT;simp;omega
theorem Ft(ls:List (List UInt8))(n:Nat):eL (ls.take n)<=eL ls:=by
 induction ls generalizing n with
 |nil=>simp
 |cons x r ih=>
  cases n with
  |zero=>unfold eL aT;simp
  |succ n=>have:=ih n;unfold eL aT at*;simp only[qA,bw,dG,cg]at*;omega
theorem uJ(kept:List (List UInt8))(p:List UInt8):eL (gW kept p)<=eL kept+p.length+1/\(((p==pJ)||(p==lk))=true->eL (gW kept p)<=eL kept/\1<=p.length):=by
 unfold gW
 cases h1:(p==pJ)
 ·cases h2:(p==lk)
  ·simp only[cond_false];rw[vL];exact⟨aw _,λh=>by simp at h⟩
  ·simp only[cond_false,cond_true];have:=Ft kept (kept.length-1);have hp:p=lk:=by simpa using h2
   exact⟨by omega,λ_=>⟨this,by rw[hp];decide⟩⟩
 ·have hp:p=pJ:=by simpa using h1
  simp only[cond_true];exact⟨by omega,λ_=>⟨aw _,by rw[hp];decide⟩⟩
theorem nC:∀(ps kept:List (List UInt8)),eL (ps.foldl gW kept)<=eL kept+eL ps
 | [],kept=>by unfold eL aT;simp
 |p::r,kept=>by
  have h1:=nC r (gW kept p);have h2:=(uJ kept p).1;rw[List.foldl_cons];unfold eL aT at*;simp only[bw,dG,cg]at*;omega
theorem yf:∀(ps kept:List (List UInt8)),(∀p∈ps,aZ fv p=true)->(∀p∈kept,aZ fv p=true)->∀p∈ps.foldl gW kept,aZ fv p=true
 | [],_,_,h=>h
 |p::r,kept,h1,h2=>by
  refine yf r (gW kept p) (λq hq=>h1 q (by simp[hq])) (λq hq=>?_);unfold gW at hq
  cases h3:(p==pJ)
  ·cases h4:(p==lk)
   ·rw[h3,h4]at hq;rcases eB.1 hq with h|h
    ·exact h2 q h
    ·rw[cA.1 h];exact h1 p (by simp)
   ·rw[h3,h4]at hq;exact h2 q (List.mem_of_mem_take hq)
  ·rw[h3]at hq;exact h2 q hq
theorem uT:∀ls:List (List UInt8),ls≠[]->(Lib.join ls [47]).length+1<=eL ls
 | [],h=>absurd rfl h
 |x::r,_=>by
  have h1:=nD [47] (x::r)
  cases r with
  |nil=>unfold Lib.join eL aT at*;simp
  |cons y q=>
   have ih:=uT (y::q) (by simp);have e:Lib.join (x::y::q) [47]=x++([47]++Lib.join (y::q) [47]):=by simp[Lib.join]
   rw[e];unfold eL aT at*;simp only[bP,bw,dG,cg,ic]at*;omega
theorem As:∀ls:List (List UInt8),(∀p∈ls,aZ fv p=true)->aZ fv (Lib.join ls [47])=true
 | [],_=>by simp[Lib.join,aZ]
 | [x],h=>by have:=h x (by simp);simpa[Lib.join]using this
 |x::y::q,h=>by
  have ih:=As (y::q) (λp hp=>h p (by simp[hp]));have e:Lib.join (x::y::q) [47]=x++([47]++Lib.join (y::q) [47]):=by simp[Lib.join]
  have hx:=h x (by simp);rw[e];unfold aZ at*;rw[n7,n7,hx,ih];rfl
theorem DT{path:List UInt8}(h:aZ fv path=true)(h0:path.headD 0=47):(nf path).length<=path.length/\aZ fv (nf path)=true/\(nf path).headD 0=47:=by
 obtain⟨s,rfl⟩:∃s,path=47::s:=by
  cases path with
  |nil=>simp at h0
  |cons c s=>simp at h0;exact⟨s,by rw[h0]⟩
 have hs:aZ fv s=true:=by unfold aZ at*;rw[jh,eA]at h;exact h.2
 obtain⟨h1,h2,h3⟩:=iQ s;unfold nf;simp only[List.headD_cons,bne_self_eq_false,cond_false,List.drop_one,List.tail_cons];have hv:=yf (bO s) [] (h3 hs) (λp hp=>by simp at hp);have hm:=nC (bO s) [];have WW:eL []=0:=rfl
 have Sf:((((bO s).getLastD []==pJ)||((bO s).getLastD []==lk))=true)->eL ((bO s).foldl gW [])+2<=eL (bO s):=by
  rcases List.eq_nil_or_concat (bO s)with he|⟨a,x,he⟩
  ·exact absurd he h2
  ·rw[List.concat_eq_append]at he;rw[he];intro hx;have hl:(a++[x]).getLastD []=x:=by simp
   rw[hl]at hx;have h4:=(uJ (a.foldl gW []) x).2 hx;have h5:=nC a [];rw[List.foldl_append,vL];show eL (gW (a.foldl gW []) x)+2<=_
   omega
 have hM:eL (bO s)=s.length+1:=h1;rw[hM]at hm Sf;rw[WW]at hm;generalize (bO s).foldl gW []=kept at*;generalize (((bO s).getLastD []==pJ)||((bO s).getLastD []==lk))=lt at*;have hjv:=As kept hv;refine⟨?_,?_,trivial⟩
 ·rw[cg,cg,bP];by_cases hk:kept=[]
  ·subst hk;simp[Lib.join]
  ·have hj:=uT kept hk;have hp:decide (0<kept.length)=true:=by simp;exact List.length_pos_iff.2 hk
   rw[hp,kN]
   cases lt
   ·simp only[cond_false,ic];omega
   ·have:=Sf rfl;simp only[cond_true,cg,ic];omega
 ·unfold aZ at*;rw[jh,n7,hjv]
  cases(lt&&decide (0<kept.length))<;>rfl
attribute [local go_sem] Oper.semAt_some
theorem qw:∀l:List UInt8,(Lib.indexByte l 47=-1->bO l=[l])/\∀k:Nat,Lib.indexByte l 47=k->bO l=l.take k::bO (l.drop (k+1))/\k<l.length
 | []=>⟨λ_=>rfl,λk h=>by simp[Lib.indexByte]at h⟩
 |b::l=>by
  obtain⟨h1,h2⟩:=qw l;have ZT:=Lib.indexByte_ge l 47;unfold Lib.indexByte;by_cases hb:(b==47)=true
  ·rw[if_pos hb];refine⟨λh=>(by cases h),λk h=>?_⟩;have hk:k=0:=by omega
   subst hk;rw[bO,hb];exact⟨rfl,by simp⟩
  ·rw[if_neg hb];have N4:(b==47)=false:=by simpa using hb
   by_cases hm:Lib.indexByte l 47=-1
   ·rw[if_pos (by simp[hm])];refine⟨λ_=>?_,λk h=>by omega⟩;rw[bO,N4,cond_false,h1 hm]
   ·rw[if_neg (by simpa using hm)];refine⟨λh=>by omega,λk h=>?_⟩;obtain⟨e1,e2⟩:=h2 (k-1) (by omega);obtain⟨j,rfl⟩:∃j,k=j+1:=⟨k-1,by omega⟩;rw[bO,N4,cond_false,e1];exact⟨by simp,by simp at e2 ⊢;omega⟩
def jX(b:Nat)(s:List UInt8)(w:World):Prop:=w.heap[b]?=some (.cells #[.string ⟨s.toArray⟩] 9 (0,0))/\w.heap[b+1]?=some (.cells #[.string ip] 9 (0,0))/\w.heap[b+1+1]?=some (.cells #[.int .i64 0] 3 (0,0))
theorem jX.kp{b:Nat}{s:List UInt8}{bs:List Nat}{w w':World}(h:jX b s w)(k:qM bs w w')(h0:b∈bs)(h1:b+1∈bs)(h2:b+1+1∈bs):jX b s w':=⟨(k.2 _ h0).trans h.1,(k.2 _ h1).trans h.2.1,(k.2 _ h2).trans h.2.2⟩
theorem jX.below{b:Nat}{s:List UInt8}{w w':World}(h:jX b s w)(hb:Below w.heap.size w w'):jX b s w':=⟨(hb.block _ (ae h.1)).trans h.1,(hb.block _ (ae h.2.1)).trans h.2.1,(hb.block _ (ae h.2.2)).trans h.2.2⟩
theorem jX.set{b:Nat}{s t:List UInt8}{w:World}(h:jX b s w):jX b t (w.setCell ⟨b,0,none⟩ (.string ⟨t.toArray⟩)):=⟨ar h.1,(fE _ _ _ _ (by show b+1≠b;omega)).trans h.2.1,(fE _ _ _ _ (by show b+1+1≠b;omega)).trans h.2.2⟩
theorem xl(s:ByteArray)(w:World):Calls Tryz.prog 255 #[.string s,.string ip] w λe w'=>e=.returned (.func (.func 391) #[] #[.pointer (some ⟨w.heap.size+1,0,none⟩),.pointer (some ⟨w.heap.size,0,none⟩),.pointer (some ⟨w.heap.size+1+1,0,none⟩)])/\jX w.heap.size s.data.toList w'/\Below w.heap.size w w'/\w'.heap.size=w.heap.size+3:=by
 have VT:=wG;obtain⟨W0,Nb⟩:=aH (((w.alloc (.cells #[.string s] 9)).alloc (.cells #[.string ip] 9)).alloc Ag);have Nm:Below w.heap.size w W0:=by rw[<-Nb];exact((((aO _ w).alloc (aw _) _).alloc (by simp) _).alloc (by simp;omega) _)
 have hA:jX w.heap.size s.data.toList W0:=by
  rw[<-Nb];refine⟨?_,?_,?_⟩
  ·rw[bN];show(((w.heap.push _).push _).push _)[_]?=_
   simp only[Array.getElem?_push,Array.size_push]
   repeat rw[if_neg (by omega)]
   exact if_pos trivial
  ·show(((w.heap.push _).push _).push _)[_]?=_
   simp only[Array.getElem?_push,Array.size_push];rw[if_neg (by omega)];exact if_pos trivial
  ·show(((w.heap.push _).push _).push _)[_]?=_
   simp only[Array.getElem?_push,Array.size_push];exact if_pos trivial
 have hz:W0.heap.size=w.heap.size+3:=by rw[<-Nb];simp
 have Nl:=ah Nb;clear Nb;go_enter Tryz.func255,Tryz.ntmps255
 go_wp2_with fail
 refine(show Calls Tryz.prog 338 #[.string s,.string ip,.int .i64 0] w λe w'=>e=.returned (.func (.func 391) #[] #[.pointer (some ⟨w.heap.size+1,0,none⟩),.pointer (some ⟨w.heap.size,0,none⟩),.pointer (some ⟨w.heap.size+1+1,0,none⟩)])/\w'=W0 from ?_).mono ?_
 ·go_enter Tryz.func338,Tryz.ntmps338
  go_wp2_with fail
  go_ret;exact⟨rfl,Nl.out⟩
 ·rintro e w' ⟨rfl,rfl⟩;go_wp2;go_ret;exact⟨rfl,hA,Nm,hz⟩
theorem Ah(b:Nat)(s:List UInt8)(w:World)(hM:cq w)(hA:jX b s w)(hs:s.length<=100000)(Ng:0≠b)(n:Nat)(hn:1<=n):Mi Fence.wide n Tryz.prog 391 #[.pointer (some ⟨b+1,0,none⟩),.pointer (some ⟨b,0,none⟩),.pointer (some ⟨b+1+1,0,none⟩)] (λp:List UInt8=>#[.string ⟨p.toArray⟩]) [b,b+1,b+1+1,0] b (bO s) w:=by
 intro l J W hW hJa hJc hY h0;have Z7:=hA.below hW;have Uc:w.heap[0]?=W.heap[0]?:=(hW.block _ hM.1).symm
 have hMx:∀X:World,X.heap[0]?=w.heap[0]?->cq X:=λX h=>by obtain⟨_,m,hm⟩:=hM;refine cq.of ⟨m,?_⟩;simpa only[World.cell?,h]using hm
 have hlen:∀(pre:List (List UInt8))(r:List UInt8),bO s=pre++bO r->pre.length<(bO s).length:=λpre r h=>by have:=(iQ r).2.1;rw[h,bP];have h2:=List.length_pos_iff.2 this;omega
 obtain⟨HY,HMX,HA1,Ox,HJC⟩:=gB hY hMx Z7 hlen hJc;clear hY hMx Z7 hlen hJc hJa hA hM;refine callsIn_of_wp Tryz.func391 rfl trivial ?_ rfl;simp only[Tryz.ntmps391,List.size_toArray,cg,ic,Nat.reduceAdd,Nat.reduceSub,Array.replicate_succ,Array.replicate_zero,List.push_toArray,List.append_toArray,lp,mr];have q1:=(ab HA1.out.2.1 0).1;simp only[cT,cS]at q1
 gi_wp2
 gi_loopw [7] (λ_ wr=>∃(pre:List (List UInt8)) (r:List UInt8),Hid (bO s=pre++bO r)/\r.length<=100000/\J pre wr/\Hid (jX b r wr)/\Hid (wr.heap[0]?=w.heap[0]?)) (λ_ wr=>BR ((wr.cell? ⟨b,0,none⟩).getD undef))
 case atStart=>exact⟨[],s,am rfl,hs,h0,HA1,am Uc.symm⟩
 case round=>
  clear q1 HA1 h0 Uc;obtain⟨pre,r,HP,RD,hJ,HA,HMx⟩:=hrel;obtain⟨a0,a1,a2⟩:=HA.out;have q0:=(ab a0 0).1;have q1:=(ab a1 0).1;have q2:=(ab a2 0).1;simp only[cT,cS]at q0 q1 q2;clear a0 a1 a2;have hMr:=HMX.out wr HMx.out;have k1:=pF ⟨r.toArray⟩ ip wr hMr (by rw[aR];omega);rw[bq,show(ip:ByteArray).data.toList=[47]from rfl,Lib.index_one]at k1;obtain⟨g1,g2⟩:=qw r;have ZT:=Lib.indexByte_ge r 47;generalize Lib.indexByte r 47=ix at*;have K1:=ah k1;clear k1 hMr;by_cases hix:ix<0
  ·have hm:ix=-1:=by omega
   have Rg:=g1 hm;have hp:=HP.out;rw[Rg]at hp;have HPf:=ah hp;obtain⟨fn,tmps,assign,body,hy,hR⟩:=HY.out pre r wr hJ (Ox.out pre r HP.out);have t0:decide (ix<0)=true:=decide_eq_true hix;clear g1 g2 Rg HY Ox HP hp HJC
   gi_wp2_with (refine⟨trivial,?_⟩;gi_at_call 100;refine(callsIn_wide.2 K1.out).mono ?_;rintro e w3 ⟨rfl,rfl⟩)
   refine hR.mono ?_;rintro e B ⟨rfl,Z6,hk⟩
   gi_wp2
   go_end0
   exact⟨⟨_,rfl⟩,by rw[HPf.out];exact Z6⟩
  ·obtain⟨k,rfl⟩:∃k:Nat,ix=(k:Int):=⟨ix.toNat,by omega⟩;obtain⟨Rg,PS⟩:=g2 k rfl;have t0:decide ((k:Int)<0)=false:=decide_eq_false hix;have he:(⟨r.toArray⟩:ByteArray).extract 0 k=⟨(r.take k).toArray⟩:=by apply dE;rw[eD];simp
   have Xm:(⟨r.toArray⟩:ByteArray).extract (k+1) (⟨r.toArray⟩:ByteArray).size=⟨(r.drop (k+1)).toArray⟩:=by apply dE;rw[fe]
   have hp:=HP.out;rw[Rg]at hp;have YI:Hid (bO s=(pre++[r.take k])++bO (r.drop (k+1))):=am (by rw[hp];simp);obtain⟨fn,tmps,assign,body,hy,hR⟩:=HY.out pre (r.take k) wr hJ (Ox.out pre r HP.out);have hz:(⟨r.toArray⟩:ByteArray).size=r.length:=aR r;have n1:(k:Int)<=(⟨r.toArray⟩:ByteArray).size:=by omega
   have n2:(k:Int)+1<=(⟨r.toArray⟩:ByteArray).size:=by omega
   have n3:IntKind.i64.wrap ((k:Int)+1)=(k:Int)+1:=by rw[b_];omega
   have n4:IntKind.i64.wrap ((k:Int)+0)=(k:Int):=by rw[b_];omega
   clear g1 g2 Rg HY Ox HP hp
   gi_wp2_with (refine⟨trivial,?_⟩;gi_at_call 100;refine(callsIn_wide.2 K1.out).mono ?_;rintro e w3 ⟨rfl,rfl⟩)
   refine hR.mono ?_;rintro e B ⟨rfl,Z6,hk⟩;have hAB:=HA.out.kp hk (by simp) (by simp) (by simp);have HMB:Hid (B.heap[0]?=w.heap[0]?):=am ((hk.2 _ (by simp)).trans HMx.out);have x0:=(ab hAB.1 0).1;have x1:=(ab hAB.2.1 0).1;have x0f:=(ab hAB.1 0).2.1;simp only[cT,cS]at x0 x1;have HAS:Hid (jX b (r.drop (k+1)) (B.setCell ⟨b,0,none⟩ (.string ((⟨r.toArray⟩:ByteArray).extract (k+1) r.length)))):=am (by rw[hz]at Xm;rw[Xm];exact hAB.set);have PF:=(ab HAS.out.1 0).1;have HM2:Hid (((B.setCell ⟨b,0,none⟩ (.string ((⟨r.toArray⟩:ByteArray).extract (k+1) r.length))).heap[0]?=w.heap[0]?)):=am ((fE _ _ _ _ (by exact Ng)).trans HMB.out)
   have HQ:Hid (BR (((B.setCell ⟨b,0,none⟩ (.string ((⟨r.toArray⟩:ByteArray).extract (k+1) r.length))).cell? ⟨b,0,none⟩).getD undef)<BR ((w3.cell? ⟨b,0,none⟩).getD undef)):=am (by
    rw[PF,q0];show(⟨(r.drop (k+1)).toArray⟩:ByteArray).size<(⟨r.toArray⟩:ByteArray).size
    rw[aR,aR,gH];omega)
   have HJ2:=ah (HJC.out _ _ (.string ((⟨r.toArray⟩:ByteArray).extract (k+1) r.length)) Z6);clear hAB hk q0 q1 q2 PF Z6 HJC
   gi_wp2
   go_roundw
   case rel=>exact⟨_,_,YI,by rw[gH];omega,HJ2.out,HAS,HM2⟩
   case measure=>exact HQ.out
end Go.Proofs.YtdbjnlkbhhebbaaGreatDoor
