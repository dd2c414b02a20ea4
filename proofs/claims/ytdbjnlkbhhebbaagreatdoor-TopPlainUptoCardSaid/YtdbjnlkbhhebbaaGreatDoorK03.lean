/- Frm2, Chk1, Chk2, Line1, Itoa, Line2, Box8, Line4, Line5, HdSpec, Line6. -/
import Derived.Test.YtdbjnlkbhhebbaaGreatDoorK01
import Derived.Test.YtdbjnlkbhhebbaaGreatDoorK02
import Derived.Lib.AtoiTie
import Derived.Shelf.Strings.SlTrimAscii
import Derived.ScopeJumps
import Derived.Deep.QuietTactic
import Derived.BigQuiet
import Derived.Lib.AppendIntMem
import Derived.Lib.ItoaLen
import Derived.Maps.Keyed
import Derived.StringKeys
import Derived.ChangeMaps
import Derived.Defers
import Derived.Laws.ResultCell
set_option maxRecDepth 100000
set_option maxHeartbeats 16000000
set_option linter.all false
namespace Go.Proofs.YtdbjnlkbhhebbaaGreatDoor
open Go.RowKit
theorem xu(p:UInt8->Bool):∀l:List UInt8,l.dropWhile p=[]<->l.all p=true
 | []=>by simp
 |c::r=>by
  rw[List.dropWhile_cons,jh]
  cases h:p c
  ·simp
  ·simpa using xu p r
theorem pO(l cs:List UInt8):Lib.trimS l cs=[]<->l.all cs.contains=true:=by
 unfold Lib.trimS Lib.trimLeftS Lib.trimRightS;rw[xu];constructor
 ·intro h;by_cases hr:l.reverse.dropWhile (cs.contains ·)=[]
  ·rw[xu]at hr;rw[dH]at hr ⊢;exact λc hc=>hr c (by simpa using hc)
  ·exfalso
   obtain⟨c,r,hcr⟩:∃c r,l.reverse.dropWhile (cs.contains ·)=c::r:=by
    cases hq:l.reverse.dropWhile (cs.contains ·)with
    |nil=>exact absurd hq hr
    |cons c r=>exact⟨c,r,rfl⟩
   have hc:cs.contains c=false:=by have:=List.head?_dropWhile_not (cs.contains ·) l.reverse;rw[hcr]at this;simpa using this
   rw[hcr,dH]at h;have:=h c (by simp);rw[hc]at this;cases this
 ·intro h
  have hr:l.reverse.dropWhile (cs.contains ·)=[]:=by rw[xu,dH];rw[dH]at h;exact λc hc=>h c (by simpa using hc)
  rw[hr];rfl
theorem ja(s cs:ByteArray)(w:World)(hs:s.size<=2000000)(hc:cs.size<=1000)(ha:cs.data.toList.all (λb=>decide (b.toNat<128))=true)(h2:1<=cs.size):Calls Tryz.prog 144 #[.string s,.string cs] w λe w'=>e=.returned (.string ⟨(Lib.trimS s.data.toList cs.data.toList).toArray⟩)/\Below w.heap.size w w':=Any.strings_Trim_laid Tryz.lays160 (by kernel_rfl) s cs w (by omega) (by omega) (ascii_of_all ha)
def o_:List UInt8:=[48,49,50,51,52,53,54,55,56,57]
theorem wW:∀n:Fin 256,o_.contains (UInt8.ofNat n.val)=f_ (UInt8.ofNat n.val):=by decide +kernel
theorem Dm(c:UInt8):o_.contains c=f_ c:=by have:=wW ⟨c.toNat,c.toNat_lt⟩;simpa using this
theorem zm(l:List UInt8):(Lib.trimS l o_==[])=l.all f_:=by
 rw[jj,beq_iff_eq,pO,dH,dH];constructor
 ·intro h c hc;rw[<-Dm];exact h c hc
 ·intro h c hc;rw[Dm];exact h c hc
theorem qH:∀(l:List UInt8)(acc:Nat),l.all f_=true->Lib.decFrom acc l=some (l.foldl (λn c=>10*n+(c.toNat-48)) acc)
 | [],_,_=>rfl
 |c::r,acc,h=>by
  rw[jh,eA]at h;have hd:=h.1;unfold f_ at hd;simp at hd
  unfold Lib.decFrom Lib.digitVal;rw[if_pos hd];simp only
  rw[qH r _ h.2,List.foldl_cons,Nat.mul_comm]
theorem DZ(l:List UInt8)(h:iS l=true):mB l=(cx l:Int):=by
 unfold iS at h;rw[eA]at h;have hl:l.length<=18:=by simpa using h.1
 unfold mB;rw[Lib.atoiAll_short _ hl]
 cases l with
 |nil=>rfl
 |cons c r=>
  have hc:f_ c=true:=dH.1 h.2 c (by simp);have RZ:=hc;unfold f_ at RZ;simp at RZ
  have e1:(c==45)=false:=by rw[beq_eq_false_iff_ne];rintro rfl;exact absurd hc (by decide)
  have e2:(c==43)=false:=by rw[beq_eq_false_iff_ne];rintro rfl;exact absurd hc (by decide)
  have ha:Lib.atoi (c::r)=some ((cx (c::r):Nat):Int):=by
   unfold Lib.atoi;simp only
   rw[if_neg (by rw[e1];decide),if_neg (by rw[e2];decide)];unfold Lib.decNat;rw[if_neg (by simp),qH _ _ h.2];rfl
  rw[ha];rfl
theorem MP:(Tryz.prog.info? 3).map (λi=>(i.zero,i.size,i.bytes))=some (some (.int .i64 0),1,8):=by kernel_rfl
def Iz(zs:List Int):List Value:=zs.map λz=>Value.int .i64 z
def pi(B:Nat)(v:Value)(zs:List Int)(w:World):Prop:=w.ownsRow B 3 1 v zs.length (Iz zs)
theorem pi.shape{B:Nat}{v:Value}{zs:List Int}{w:World}(h:pi B v zs w):∃a cap,v=.slice a zs.length cap:=by
 rcases h.2 with⟨rfl,h0⟩|⟨g,cap,cur,rfl,_⟩
 ·exact⟨none,0,by rw[h0]⟩
 ·exact⟨_,_,rfl⟩
theorem pi.below{B:Nat}{v:Value}{zs:List Int}{w w1:World}(h:pi B v zs w)(hb:Below w.heap.size w w1):pi B v zs w1:=jz h hb
theorem pi.nil(B:Nat)(w:World):pi B (.slice none 0 0) [] w:=World.ownsRow_nil _ _ _ _
theorem pi.at{B m cap:Nat}{a:Option Addr}{zs:List Int}{w:World}(h:pi B (.slice a m cap) zs w){k:Nat}(hk:k<zs.length):∃b o,a=some ⟨b,o,none⟩/\w.cell? ⟨b,o+k,none⟩=some (.int .i64 zs[k]):=by obtain⟨_,h2⟩:=Rd.of_own h;obtain⟨b,o,e,_,hc⟩:=h2.2 (by omega);exact⟨b,o,e,hc k _ (by simp[Iz,hk])⟩
theorem Jn{ops:Array Oper}{rest:List Oper}{o:Oper}{a:Act}{Q:Exit->Act->World->Prop}(B:Nat)(y:Int){w:World}{v:Value}{zs:List Int}(Nj:pi B v zs w)(hB:B<=w.heap.size)(hn:zs.length<=1000000000)(Ot:o.guard=none)(s x:Operand)(ho:o.op=.call { callee:=.builtin .append,args:=#[s,x],argTypes:=#[316,316] })(hs:a.eval s=v)(hx:a.eval x=.slice (some ⟨w.heap.size,0,none⟩) 1 1)(hK:∀v' w1,pi B v' (zs++[y]) w1->Below B w w1->pD w w1 v v'->wpList Tryz.prog ops Q rest (a.put o.dst v') w1):wpList Tryz.prog ops Q (o::rest) a (w.alloc (.cells #[.int .i64 y] 3)):=by
 refine oQ (z:=.int .i64 0) (bytes:=8) (n:=zs.length) Ot s x 316 3 ho Tryz.underlying316 MP rfl (by decide) (by decide) B [.int .i64 y] rfl (by intro u hu;simp at hu;subst hu;rfl) hs hx Nj hB hn ?_;intro v' w1 h1 h2 h3;refine hK v' w1 ?_ h2 h3;show World.ownsRow _ _ _ _ _ _ _
 unfold Iz;rw[bP,dM,cO];exact h1
theorem total_most(ls:List (List UInt8))(m:Nat)(h:∀v∈ls,v.length<=m):aT ls<=m*ls.length:=by
 induction ls with
 |nil=>simp[aT]
 |cons x r ih=>
  have h1:=h x (by simp);have h2:=ih (λv hv=>h v (by simp[hv]));unfold aT at*;rw[bw,dG,cg,Nat.mul_succ];omega
theorem Dg:∀(ls acc:List (List UInt8)),(lQ acc ls).2=0->(lQ acc ls).1≠[]
 | [],acc,h=>by
  unfold lQ at*
  cases ha:acc.isEmpty
  ·simpa using ha
  ·rw[ha]at h;cases h
 |x::r,acc,h=>by
  unfold lQ at*
  cases hb:((ax 44 x).2==0)
  ·rw[hb]at h;cases h
  ·rw[hb]at h;exact Dg r _ h
theorem JU(vs:List (List UInt8)):(fF vs).2=0->(fF vs).1≠[]:=Dg vs []
theorem FU(A:Option Addr)(n c:Nat)(vs:List (List UInt8))(w:World)(hE:gD w)(hr:Rd A n 1 (aF vs) w)(hn:n<=100)(hs:∀v∈vs,v.length<=100000):Calls Tryz.prog 161 #[.slice A n c] w λe w'=>e=.returned (.tuple #[.int .i64 (nM vs).1,.int .i64 (nM vs).2])/\Below w.heap.size w w':=by
 have k1:=Dw A n c vs w hr hn (λv hv=>bj (hs v hv) (by decide));have O4:=wM vs [];have YG:=hr.str
 have OG:aT vs<=10000000:=by have h1:=total_most vs 100000 hs;omega
 have Ng:=JU vs
 have hL:nM vs=bif(fF vs).2 !=0 then(0,(fF vs).2)else bif !(fF vs).1.all iS then(0,4)else
  bif(fF vs).1.all (λp=>cx p==cx ((fF vs).1.headD []))then(((cx ((fF vs).1.headD []):Nat):Int),0)else(0,8):=rfl
 obtain⟨R,hR⟩:=aH (nM vs);rw[hR]at hL ⊢
 have Pb:(fF vs).1.length<=6400/\aT (fF vs).1<=10000000:=by obtain⟨h1,h2⟩:=O4;have e1:lQ [] vs=fF vs:=rfl;rw[e1]at h1 h2;have e2:aT ([]:List (List UInt8))=0:=rfl;rw[e2]at h2;simp only[ic]at h1;omega
 clear O4 hR hs hr hn YG OG;generalize fF vs=r at*;obtain⟨ps,er⟩:=r;simp only at k1 hL Pb Ng
 obtain⟨Oe,Rw⟩:=Pb;have SN:∀p∈ps,p.length<=10000000:=λp hp=>by have:=cG hp;omega
 obtain⟨K1,HL,TX,XM⟩:=bK k1 hL SN Ng;clear k1 hL SN Ng Rw;go_enter Tryz.func161,Tryz.ntmps161
 go_wp2_with fail
 refine K1.out.mono ?_;rintro e w2 ⟨a2,c2,rfl,Nz,M9⟩;simp only at Nz ⊢
 have Uj:=ah Nz.rd.2;clear Nz K1
 cases he:(er==0)
 ·have n1:(er !=0)=true:=by simp[bne,he]
  have hl:=HL.out;rw[n1,cond_true]at hl;subst hl;go_wp2;go_ret2
  exact⟨rfl,M9⟩
 ·have n1:(er !=0)=false:=by simp[bne,he]
  have PY:er=0:=by simpa using he
  have hl:=HL.out;rw[n1,cond_false]at hl;have Oo:=ah hl;have Ng:=XM.out PY;have UO:0<ps.length:=List.length_pos_iff.2 Ng;clear hl HL he PY Ng XM
  have NB:∀k(h:k<ps.length),iS ps[k]=false->ps.all iS=false:=λk h hk=>by rw[List.all_eq_false];exact⟨ps[k],bQ _,by simp[hk]⟩
  have NA:∀k(h:k<ps.length),(ps.take k).all iS=true->iS ps[k]=true->(ps.take (k+1)).all iS=true:=λk h h1 h2=>by rw[gL h,n7,h1];simp[h2]
  have Pg:∀k(h:k<ps.length),(ps.take (k+1)).map (λp=>((cx p:Nat):Int))=(ps.take k).map (λp=>((cx p:Nat):Int))++[((cx ps[k]:Nat):Int)]:=λk h=>by rw[gL h,cO];rfl
  obtain⟨OC,OS,V6⟩:=bu NB NA Pg;clear NB NA Pg;go_wp2_with fail
  go_loopw [6,23] (λout i wr=>∃k:Nat,k<=ps.length/\i=.int .i64 k/\Hid ((ps.take k).all iS=true)/\Hid (pi w2.heap.size out ((ps.take k).map (λp=>((cx p:Nat):Int))) wr)/\Below w2.heap.size w2 wr) (λ_ i _=>ps.length-(intOf i).toNat)
  case atStart=>exact⟨0,a_ _,rfl,am (by simp),am (by simpa using pi.nil _ _),aO _ _⟩
  case round=>
   obtain⟨k,hk,rfl,Qe,HO,M_⟩:=hrel;by_cases Nc:k<ps.length
   ·obtain⟨b,o,rfl,hl,c1⟩:=(Uj.out.below M_).str_at (k:=k) Nc;have hp:=TX.out ps[k] (bQ _);have NB:=OC.out k Nc;have NA:=OS.out k Nc Qe.out;have Pg:=V6.out k Nc;have Xi:((ps.take k).map (λp=>((cx p:Nat):Int))).length<=1000000000:=by rw[eE,dm];omega
    generalize ps[k]=p at*;generalize (ps.take k).map (λp=>((cx p:Nat):Int))=zs at*;obtain⟨oa,oc,rfl⟩:=HO.out.shape;have Nk:=bt M9 M_;by_cases h18:p.length<=18
    ·have t18:decide ((p.length:Int)>18)=false:=by simp;omega
     have t18':decide (((⟨p.toArray⟩:ByteArray).size:Int)>18)=false:=by rw[aR];exact t18
     have kt:=λw=>ja ⟨p.toArray⟩ ⟨#[48,49,50,51,52,53,54,55,56,57]⟩ w (by rw[aR];omega) (by decide) (by decide) (by decide)
     rw[show(⟨#[48,49,50,51,52,53,54,55,56,57]⟩:ByteArray).data.toList=o_ from rfl,bq]at kt;have Pc:=zm p;have Vk:iS p=p.all f_:=by unfold iS;rw[decide_eq_true h18,eJ]
     generalize Lib.trimS p o_=t at*;have KT:=ah kt;clear kt
     cases hd:p.all f_
     ·rw[hd]at Pc Vk;have tt:(!t.isEmpty)=true:=by cases t with|nil=>simp at Pc|cons _ _=>rfl
      have hl:=Oo.out;rw[NB Vk]at hl;have Nq:R=(0,4):=hl;subst Nq;clear hl Oo OC OS V6 TX HO Qe NB NA Pg Pc Vk hd;go_wp2_with fail
      refine(KT.out _).mono ?_;rintro e w3 ⟨rfl,Na⟩;go_wp2;go_ret2
      exact⟨rfl,bt Nk Na⟩
     ·rw[hd]at Pc Vk;have tt:(!t.isEmpty)=false:=by cases t with|nil=>rfl|cons _ _=>simp at Pc
      have ka:=λw h=>sG ⟨p.toArray⟩ w h (by rw[aR];omega)
      rw[bq,DZ p Vk]at ka;have KA:=ah ka;have HG:=ah (NA Vk);have HM:=ah Pg;clear ka NA Pg Pc Vk hd NB Qe;go_wp2_with fail
      refine(KT.out _).mono ?_;rintro e w3 ⟨rfl,Na⟩;have Nu:=bt Nk Na;have Ts:=bt M_ Na;have Ob:=ah (HO.out.below Na);clear Na c1 HO KT;go_wp2_with fail
      refine(KA.out _ (hE.below Nu)).mono ?_;rintro e w4 ⟨ev,rfl,T6,Nf⟩;clear T6;have QE:=bt Ts Nf;have Pj:=ah (Ob.out.below Nf);clear Nf Ob KA Nu Ts;go_wp2_with (at_builtin;refine Jn w2.heap.size ((cx p:Nat):Int) Pj.out QE.size Xi rfl _ _ rfl rfl rfl ?_)
      intro v' w5 Ud Ns _;have Rk:Hid (pi w2.heap.size v' ((ps.take (k+1)).map (λp=>((cx p:Nat):Int))) w5):=by rw[HM.out];exact am Ud
      have V4:=QE.trans Ns;clear Ud Ns Pj Xi;go_wp2;go_roundw
      case rel=>exact⟨k+1,by omega,by go_num,HG,Rk,V4⟩
      case measure=>simp[intOf];omega
    ·have t18:decide ((p.length:Int)>18)=true:=by simp;omega
     have t18':decide (((⟨p.toArray⟩:ByteArray).size:Int)>18)=true:=by rw[aR];exact t18
     have Vk:iS p=false:=by unfold iS;rw[decide_eq_false h18];rfl
     have hl:=Oo.out;rw[NB Vk]at hl;have Nq:R=(0,4):=hl;subst Nq;clear hl Oo OC OS V6 TX HO Qe NB NA Pg Vk;go_wp2;go_ret2
     exact⟨rfl,Nk⟩
   ·have NI:k=ps.length:=by omega
    have NY:=Qe.out;have hO:=HO.out;rw[NI,eM]at NY hO;have hl:=Oo.out;rw[NY]at hl;have Nq:R=bif ps.all (λp=>cx p==cx (ps.headD []))then(((cx (ps.headD []):Nat):Int),0)else(0,8):=hl;have Nk:=bt M9 M_;obtain⟨zs,RU⟩:=aH (ps.map (λp=>((cx p:Nat):Int)));rw[RU]at hO;have hzl:zs.length=ps.length:=by rw[<-RU,eE]
    have hza:∀j(h:j<zs.length),zs[j]=((cx (ps[j]'(by rw[<-hzl];exact h)):Nat):Int):=λj h=>by subst RU;simp
    have N_:zs[0]'(by omega)=((cx (ps.headD []):Nat):Int):=by
     rw[hza 0 (by omega)]
     cases ps with
     |nil=>simp at UO
     |cons x r=>rfl
    obtain⟨z0,Zm⟩:=aH (((cx (ps.headD []):Nat):Int):Int);have Up:∀p,(cx p==cx (ps.headD []))=(((cx p:Nat):Int)==z0):=λp=>by rw[<-Zm];exact fH _ _
    rw[Zm]at N_ Nq;have XH:(λp=>cx p==cx (ps.headD []))=(λp=>((cx p:Nat):Int)==z0):=funext Up;rw[XH]at Nq
    have Sq:∀j(h:j<zs.length),(zs.take j).all (·==z0)=true->(zs[j]==z0)=true->(zs.take (j+1)).all (·==z0)=true:=λj h h1 h2=>by rw[gL h,n7,h1];simp[h2]
    have ON:∀j(h:j<zs.length),(zs[j]==z0)=false->zs.all (·==z0)=false:=λj h h1=>by rw[List.all_eq_false];exact⟨zs[j],bQ _,by simp[h1]⟩
    have ST:ps.all (λp=>((cx p:Nat):Int)==z0)=zs.all (·==z0):=by subst RU;rw[List.all_map];rfl
    rw[ST]at Nq;have hzp:0<zs.length:=by omega
    obtain⟨oa,oc,Pu⟩:=hO.shape;rw[Pu]at hO;have Rg:(.slice oa zs.length oc:Value)=.slice oa zs.length oc:=rfl;obtain⟨b0,o0,rfl,c0⟩:=hO.at (k:=0) hzp;rw[N_,Nat.add_zero]at c0;rw[Pu];obtain⟨NM,HGO,HNO,HR⟩:=bK hO Sq ON Nq;have hzm:zs.length<=6400:=by omega
    clear NY hO hl Nq RU hza N_ Zm Up XH Sq ON ST NI Oo OC OS V6 TX HO Qe Pu Rg hzl Uj M_ M9;go_wp2_with fail
    obtain⟨wo,ZR⟩:∃wo:World,wo=wr:=⟨_,rfl⟩;have HWO:=ah ZR;clear ZR;go_loopw [47] (λi wi=>∃j:Nat,j<=zs.length/\i=.int .i64 j/\Hid ((zs.take j).all (·==z0)=true)/\wi=wo) (λi _=>zs.length-(intOf i).toNat)
    case atStart=>exact⟨0,a_ _,rfl,am (by simp),HWO.out.symm⟩
    case round=>
     obtain⟨j,hj,rfl,HA,rfl⟩:=hrel;obtain rfl:=HWO.out;by_cases hlj:j<zs.length
     ·obtain⟨b1,o1,e1,c1⟩:=NM.out.at (k:=j) hlj
      obtain⟨rfl,rfl⟩:b0=b1/\o0=o1:=by
       have:=lv e1;injection this with h1 h2
       exact⟨h1,h2⟩
      have Sq:=HGO.out j hlj HA.out;have ON:=HNO.out j hlj;generalize zs[j]=z at*
      cases hq:(z==z0)
      ·have hr:=HR.out;rw[ON hq,cond_false]at hr;subst hr;have q1:(z !=z0)=true:=by unfold bne;rw[hq];rfl
       clear HR HGO HNO HA Sq ON;go_wp2;go_ret2
       exact⟨rfl,Nk⟩
      ·have q1:(z !=z0)=false:=by unfold bne;rw[hq];rfl
       have HG:=ah (Sq hq);clear Sq ON HR HNO HGO HA;go_wp2;go_roundw
       case rel=>exact⟨j+1,by omega,by go_num,HG,trivial⟩
       case measure=>simp[intOf];omega
     ·have Xj:j=zs.length:=by omega
      have ha:=HA.out;rw[Xj,eM]at ha;have hr:=HR.out;rw[ha,cond_true]at hr;subst hr;have N_:(0:Int)<(zs.length:Int):=by omega
      clear ha HR HGO HNO HA Xj;go_wp2;go_ret2
      exact⟨rfl,Nk⟩
theorem qK(t:ByteArray)(bs mv:Int)(w:World)(Ng:t.size≠0)(hm:t.size<=8)(hh:t.data.toList.all eO=true)(hb:(bs=64/\mv=18446744073709551615)\/(bs=8/\mv=255/\t.size<=2)):Calls Tryz.prog 216 #[.string t,.int .i64 16,.int .i64 bs] w λe w'=>e=.returned (.tuple #[.int .u64 (eZ t.data.toList),.nilIface])/\Below w.heap.size w w':=by
 have k1:=CR t bs mv w Ng hm hh hb;have K1:=ah k1;clear k1 hb hh Ng hm;go_enter Tryz.func216,Tryz.ntmps216
 go_wp2_with fail
 refine K1.out.mono ?_;rintro e w1 ⟨rfl,M8⟩;go_wp2;go_ret2
 exact⟨rfl,M8⟩
theorem pF(s:ByteArray)(sub:ByteArray)(w:World)(h:cq w)(hs:s.size<=100000):Calls Tryz.prog 100 #[.string s,.string sub] w λe w'=>e=.returned (.int .i64 (Lib.index s.data.toList sub.data.toList))/\w'=w:=by obtain⟨_,m,hm⟩:=h;exact Tryz.strings_Index s sub m w (by omega) hm
def Dy(s:ByteArray)(r:Int × Int)(n:Nat):Value:=bif r.2==0 then .tuple #[.string (s.extract 0 r.1.toNat),.int .i64 (r.1+n),.int .i64 0]else .tuple #[.string ⟨#[]⟩,.int .i64 0,.int .i64 r.2]
theorem uK(s sep:ByteArray)(Nh:Nat)(w:World)(hM:cq w)(hs:s.size<=140737488351232)(hm:Nh<=10000)(Zy:sep.size<=10):Calls Tryz.prog 163 #[.string s,.string sep,.int .i64 Nh] w λe w'=>e=.returned (Dy s (iU s.data.toList sep.data.toList Nh) sep.size)/\w=w':=by
 obtain⟨n,hn⟩:∃n:Nat,min (s.size:Int) Nh=(n:Int):=⟨min s.size Nh,by omega⟩;have TO:n=min s.size Nh:=by omega
 have hex:(s.extract 0 n).data.toList=s.data.toList.take Nh:=by
  rw[eD,TO];simp only[Nat.sub_zero,na];rcases Nat.le_total s.size Nh with h|h
  ·rw[Nat.min_eq_left h,jJ (by rw[<-aY];exact aw _),jJ (by rw[<-aY];exact h)]
  ·rw[Nat.min_eq_right h]
 have k1:=pF (s.extract 0 n) sep w hM (by rw[eu];omega);rw[hex]at k1;have hL:iU s.data.toList sep.data.toList Nh=bif decide (0<=Lib.index (s.data.toList.take Nh) sep.data.toList)then(Lib.index (s.data.toList.take Nh) sep.data.toList,0)else bif decide (Nh<=s.size)then(0,3)else(0,6):=by rw[aY];rfl
 have N7:=Lib.index_room (s.data.toList.take Nh) sep.data.toList;rw[hL];have Nc:(s.data.toList.take Nh).length<=s.size:=by rw[dm,<-aY];omega
 generalize Lib.index (s.data.toList.take Nh) sep.data.toList=ix at*;clear hex hL;unfold Dy;have n1:(n:Int)<=s.size:=by omega
 have n2:(0:Int)<=(n:Int):=by omega
 have n3:((n:Int)).toNat=n:=by simp
 have n4:n<=s.size:=by omega
 have K1:=ah k1;clear k1;by_cases h0:0<=ix
 ·have hr:=N7 h0;have t0:decide (ix>=0)=true:=decide_eq_true h0;rw[decide_eq_true h0];simp only[cond_true,beq_self_eq_true];obtain⟨k,hk⟩:∃k:Nat,ix=(k:Int):=⟨ix.toNat,by omega⟩;subst hk;have m1:(k:Int)<=s.size:=by omega
  have m2:k<=s.size:=by omega
  have m3:IntKind.i64.wrap ((k:Int)+sep.size)=(k:Int)+sep.size:=by rw[b_];omega
  clear N7 hr Nc;go_enter Tryz.func163,Tryz.ntmps163
  go_wp2_with fail
  rw[<-TO];refine K1.out.mono ?_;rintro e w1 ⟨rfl,rfl⟩;clear K1 hn TO;go_wp2;go_ret3
  exact⟨rfl,rfl⟩
 ·have t0:decide (ix>=0)=false:=decide_eq_false h0;rw[decide_eq_false h0];simp only[cond_false];by_cases T9:Nh<=s.size
  ·have t1:decide ((s.size:Int)>=(Nh:Int))=true:=decide_eq_true (by omega);rw[decide_eq_true T9];obtain rfl:n=Nh:=by omega
   have Y_:(min (s.size:Int) (n:Int)).toNat=n:=by omega
   clear N7 Nc hn TO;go_enter Tryz.func163,Tryz.ntmps163
   go_wp2_with fail
   first|(refine K1.out.mono ?_)|(rw[Y_];refine K1.out.mono ?_)
   rintro e w1 ⟨rfl,rfl⟩;clear K1;go_wp2;go_ret3
   exact⟨rfl,rfl⟩
  ·have t1:decide ((s.size:Int)>=(Nh:Int))=false:=decide_eq_false (by omega);rw[decide_eq_false T9];obtain rfl:n=s.size:=by omega
   have XK:s.extract 0 s.size=s:=by apply dE;rw[eD];simp only[Nat.sub_zero,na];exact eH s _ (aw _)
   rw[XK]at K1;have Y_:(min (s.size:Int) (Nh:Int)).toNat=s.size:=by omega
   clear N7 Nc hn TO;go_enter Tryz.func163,Tryz.ntmps163
   go_wp2_with fail
   first|(refine K1.out.mono ?_)|(rw[Y_];refine K1.out.mono ?_)
   rintro e w1 ⟨rfl,rfl⟩;clear K1;go_wp2;go_ret3
   exact⟨rfl,rfl⟩
def xx:List UInt8:=[48,49,50,51,52,53,54,55,56,57,97,98,99,100,101,102,65,66,67,68,69,70]
theorem wO:∀n:Fin 256,xx.contains (UInt8.ofNat n.val)=eO (UInt8.ofNat n.val):=by decide +kernel
theorem DF(c:UInt8):xx.contains c=eO c:=by have:=wO ⟨c.toNat,c.toNat_lt⟩;simpa using this
theorem sO(l:List UInt8):(Lib.trimS l xx==[])=l.all eO:=by
 rw[jj,beq_iff_eq,pO,dH,dH];constructor
 ·intro h c hc;rw[<-DF];exact h c hc
 ·intro h c hc;rw[DF];exact h c hc
theorem LW{c:UInt8}(h:ow c=false):((c.toNat:Int)!=9)=true/\((c.toNat:Int)==9)=false/\(decide ((c.toNat:Int)<32)=true\/(decide ((c.toNat:Int)<32)=false/\decide ((c.toNat:Int)>126)=true)):=by
 simp[ow]at h
 refine⟨by simp;omega,by simp;omega,?_⟩;by_cases h2:(c.toNat:Int)<32
 ·left;exact decide_eq_true h2
 ·right;exact⟨decide_eq_false h2,decide_eq_true (by omega)⟩
theorem JS{c:UInt8}(h:ow c=true):(((c.toNat:Int)!=9)=false/\((c.toNat:Int)==9)=true)\/(((c.toNat:Int)!=9)=true/\((c.toNat:Int)==9)=false/\decide ((c.toNat:Int)<32)=false/\decide ((c.toNat:Int)>126)=false):=by
 simp[ow]at h
 by_cases h2:c.toNat=9
 ·left;exact⟨by simp;omega,by simp;omega⟩
 ·right;exact⟨by simp;omega,by simp;omega,decide_eq_false (by omega),decide_eq_false (by omega)⟩
theorem Ey(s:ByteArray)(w:World)(hM:cq w)(hs:s.size<=10000):Calls Tryz.prog 164 #[.string s] w λe w'=>e=.returned (.tuple #[.int .i64 ((nU s.data.toList).1:Int),.int .i64 (nU s.data.toList).2])/\Below w.heap.size w w':=by
 have k1:=iL s ⟨#[59]⟩ w hM (by omega);rw[show(⟨#[59]⟩:ByteArray).data.toList=[59]from rfl]at k1;have QK:=h_ s.data.toList [59];rw[<-aY]at QK;obtain⟨Z,hZ⟩:=aH (nU s.data.toList);rw[hZ];unfold nU at hZ;generalize Lib.cut s.data.toList [59]=c at*;obtain⟨dg,more,is⟩:=c;simp only at QK hZ k1
 have K1:=ah k1;clear k1;by_cases PD:dg=[]
 ·subst PD;have hz:Z=(0,4):=hZ.symm;subst hz;clear hZ;go_enter Tryz.func164,Tryz.ntmps164
  go_wp2_with fail
  refine K1.out.mono ?_;rintro e w1 ⟨rfl,M8⟩;go_wp2;go_ret2
  exact⟨rfl,M8⟩
 ·have hie:dg.isEmpty=false:=by cases dg with|nil=>exact absurd rfl PD|cons _ _=>rfl
  have te:(dg==[])=false:=by rw[beq_eq_false_iff_ne];exact PD
  rw[hie,ig]at hZ;by_cases h8:dg.length<=8
  ·have t8:decide (((⟨dg.toArray⟩:ByteArray).size:Int)>8)=false:=by rw[aR];exact decide_eq_false (by omega)
   have t8':decide ((dg.length:Int)>8)=false:=decide_eq_false (by omega);rw[decide_eq_false (by omega),ig]at hZ;have kt:=λw=>ja ⟨dg.toArray⟩ uR w (by rw[aR];omega) (by decide) (by decide) (by decide)
   rw[show(uR:ByteArray).data.toList=xx from rfl,bq]at kt;have Pc:=sO dg;generalize Lib.trimS dg xx=t at*;have KT:=ah kt;clear kt
   cases hd:dg.all eO
   ·rw[hd]at Pc hZ;have tt:(!t.isEmpty)=true:=by cases t with|nil=>simp at Pc|cons _ _=>rfl
    have hz:Z=(0,4):=hZ.symm;subst hz;clear hZ Pc hd;go_enter Tryz.func164,Tryz.ntmps164
    go_wp2_with fail
    refine K1.out.mono ?_;rintro e w1 ⟨rfl,M8⟩;go_wp2_with fail
    refine(KT.out _).mono ?_;rintro e w2 ⟨rfl,M9⟩;go_wp2;go_ret2
    exact⟨rfl,bt M8 M9⟩
   ·rw[hd]at Pc hZ;have tt:(!t.isEmpty)=false:=by cases t with|nil=>rfl|cons _ _=>simp at Pc
    have hZ2:(bif !more.all ow then(0,4)else(eZ dg,0))=Z:=hZ;have NB:∀(m:ByteArray)k(h:k<m.size),ow m[k]=false->m.data.toList.all ow=false:=λm k h hk=>nr ow m k h hk
    have hQ:∀(m:ByteArray)k,(m.data.toList.take k).all ow=true->m.size<=k->m.data.toList.all ow=true:=λm k h hk=>by rw[eH m k hk]at h;exact h
    have kp:=λw=>qK ⟨dg.toArray⟩ 64 18446744073709551615 w (by rw[aR];intro h;exact PD (mz h)) (by rw[aR];exact h8) (by rw[bq];exact hd) (Or.inl ⟨rfl,rfl⟩)
    rw[bq]at kp
    have hhx:eZ dg<4294967296:=by
     have h1:=oU dg hd;have h2:(16:Nat) ^ dg.length<=16 ^ 8:=Nat.pow_le_pow_right (by decide) h8;have h3:(16:Nat) ^ 8=4294967296:=by decide
     omega
    obtain⟨m,rfl⟩:∃o:ByteArray,more=o.data.toList:=⟨⟨more.toArray⟩,rfl⟩;rw[bN]at K1;have NB:=NB m;have hQ:=hQ m;have hS:=λk(h:k<m.size)=>lE ow m k h
    generalize eZ dg=hx at*;obtain⟨KP,HZ,OC,HQ,HS⟩:=gB kp hZ2 NB hQ hS;have T9:m.size<=10000:=by rw[aY];omega
    clear kp hZ hZ2 NB hQ hS Pc hd QK hie;go_enter Tryz.func164,Tryz.ntmps164
    go_wp2_with fail
    refine K1.out.mono ?_;rintro e w1 ⟨rfl,M8⟩;go_wp2_with fail
    refine(KT.out _).mono ?_;rintro e w2 ⟨rfl,M9⟩;have Nk:=bt M8 M9;clear K1 KT M8 M9;go_wp2_with fail
    go_loop [31] (λi=>∃k:Nat,k<=m.size/\i=.int .i64 k/\Hid ((m.data.toList.take k).all ow=true)) (λi=>m.size-(intOf i).toNat)
    case atStart=>exact⟨0,a_ _,rfl,am (by simp)⟩
    case round=>
     obtain⟨k,hk,rfl,HA⟩:=hrel;by_cases Nc:k<m.size
     ·have NB:=OC.out k Nc;have hs:=HS.out k Nc;rw[HA.out,eJ]at hs;obtain⟨c,hc⟩:=aH (m[k]);rw[hc]at NB hs
      cases hp:ow c
      ·have hz:=HZ.out;rw[NB hp]at hz;have N6:Z=(0,4):=hz.symm;subst N6;clear NB hs OC HS HQ HZ HA hz;rcases LW hp with⟨c1,c4,c2|⟨c2,c3⟩⟩
       all_goals
        clear hp;go_wp2;go_ret2
        exact⟨rfl,Nk⟩
      ·have HN:=ah (hs.trans hp);clear NB hs OC HS HQ HZ HA;rcases JS hp with⟨c1,c4⟩|⟨c1,c4,c2,c3⟩
       all_goals
        clear hp;go_wp2;go_round
        case rel=>exact⟨k+1,by omega,by go_num,HN⟩
        case measure=>simp[intOf];omega
     ·have hz:=HZ.out;rw[HQ.out k HA.out (by omega)]at hz;have N6:Z=(hx,0):=hz.symm;subst N6;have e1:IntKind.i64.wrap (hx:Int)=(hx:Int):=by rw[b_];omega
      clear hz HZ HQ HS OC HA;go_wp2_with fail
      refine(KP.out _).mono ?_;rintro e w3 ⟨rfl,Na⟩;go_wp2;go_ret2
      exact⟨rfl,bt Nk Na⟩
  ·have t8:decide (((⟨dg.toArray⟩:ByteArray).size:Int)>8)=true:=by rw[aR];exact decide_eq_true (by omega)
   have t8':decide ((dg.length:Int)>8)=true:=decide_eq_true (by omega);rw[decide_eq_true (by omega)]at hZ;have hz:Z=(0,4):=hZ.symm;subst hz;clear hZ;go_enter Tryz.func164,Tryz.ntmps164
   go_wp2_with fail
   refine K1.out.mono ?_;rintro e w1 ⟨rfl,M8⟩;go_wp2;go_ret2
   exact⟨rfl,M8⟩
def kD(J:Nat->Act->World->Prop)(Q:Exit->Act->World->Prop):Exit->Act->World->Prop
 |.goto l,a,w=>J l a w
 |e,a,w=>Q e a w
theorem uC{P:Program}{a:Act}{w:World}{Q:Exit->Act->World->Prop}{c:Code}(J:Nat->Act->World->Prop)(μ:Nat->Act->World->Nat)(first:c.wp P (kD J Q) a w)(pass:∀l a w,J l a w->∃rest,findLabel c l=some rest/\rest.wp P (kD (λl' a' w'=>J l' a' w'/\μ l' a' w'<μ l a w) Q) a w):(Code.scope c).wp P Q a w:=by
 intro b k cs
 have key:∀n l a w,μ l a w=n->J l a w->∃rest,findLabel c l=some rest/\∃e a' w',Q e a' w'/\Arrives P (lone (b.at a (.code rest::.inScope c::k)) cs w) b k cs e a' w':=by
  intro n
  induction n using Nat.strongRecOn with
  |_ n ih=>
   intro l a w hn hJ;obtain⟨rest,hf,hp⟩:=pass l a w hJ;refine⟨rest,hf,?_⟩;obtain⟨e,a₁,w₁,hq,PI⟩:=hp b (.inScope c::k) cs
   cases e with
   |normal=>exact⟨.normal,a₁,w₁,hq,Steps.trans PI (.one step_inScope)⟩
   |exit id=>exact⟨.exit id,a₁,w₁,hq,λk' hk=>PI k' (by simp[exitTo,hk])⟩
   |goto l'=>
    obtain⟨Z6,Nc⟩:=hq;obtain⟨Tl,VU,e₂,a₂,w₂,hq₂,Vc⟩:=ih _ (by omega) l' a₁ w₁ rfl Z6;have hg:gotoIn l' (.inScope c::k)=some (.code Tl::.inScope c::k):=by simp[gotoIn,VU]
    exact⟨e₂,a₂,w₂,hq₂,.of_steps (PI _ hg) Vc⟩
   |ret=>exact⟨_,a₁,w₁,hq,PI⟩
   |panic ch=>exact⟨_,a₁,w₁,hq,PI⟩
   |outgrown=>exact⟨_,a₁,w₁,hq,PI⟩
 obtain⟨e,a₁,w₁,hq,PI⟩:=first b (.inScope c::k) cs
 cases e with
 |normal=>exact⟨.normal,a₁,w₁,hq,.head step_scope (Steps.trans PI (.one step_inScope))⟩
 |exit id=>exact⟨.exit id,a₁,w₁,hq,λk' hk=>.head step_scope (PI k' (by simp[exitTo,hk]))⟩
 |goto l'=>
  obtain⟨Tl,VU,e₂,a₂,w₂,hq₂,Vc⟩:=key _ l' a₁ w₁ rfl hq;have hg:gotoIn l' (.inScope c::k)=some (.code Tl::.inScope c::k):=by simp[gotoIn,VU]
  exact⟨e₂,a₂,w₂,hq₂,.of_steps (.head step_scope (PI _ hg)) Vc⟩
 |ret=>exact⟨_,a₁,w₁,hq,.of_steps (.one step_scope) PI⟩
 |panic ch=>exact⟨_,a₁,w₁,hq,.of_steps (.one step_scope) PI⟩
 |outgrown=>exact⟨_,a₁,w₁,hq,.of_steps (.one step_scope) PI⟩
theorem um{P:Program}{a:Act}{w:World}{Q:Exit->Act->World->Prop}{c rest:Code}(J:Nat->Act->World->Prop)(μ:Nat->Act->World->Nat)(l0:Nat)(hf:findLabel c l0=some (Code.skip.seq rest))(first:∀R,(∀a' w',J l0 a' w'->rest.wp P R a' w')->c.wp P R a w)(Xr:∀a w,J l0 a w->rest.wp P (kD (λl' a' w'=>J l' a' w'/\μ l' a' w'<μ l0 a w) Q) a w)(pass:∀l,l≠l0->∀a w,J l a w->∃rest,findLabel c l=some rest/\rest.wp P (kD (λl' a' w'=>J l' a' w'/\μ l' a' w'<μ l a w) Q) a w):(Code.scope c).wp P Q a w:=by
 refine uC J μ (first _ λa' w' hJ=>?_) λl a w hJ=>?_
 ·refine Code.wp_mono (λe a w h=>?_) (Xr a' w' hJ)
  cases e with
  |goto l=>exact h.1
  |normal=>exact h
  |exit id=>exact h
  |ret=>exact h
  |panic ch=>exact h
  |outgrown=>exact h
 ·by_cases hl:l=l0
  ·subst hl;exact⟨_,hf,wp_seq (wp_skip (Xr a w hJ))⟩
  ·exact pass l hl a w hJ
theorem jq{fn:Func}{t u v x:Tmp}(h:fn.results=#[.tmp t,.tmp u,.tmp v,.tmp x])(tmps:Array Value)(P:Program)(w:World):(results fn tmps).run P w=.ok (.tuple #[tmps.getD t undef,tmps.getD u undef,tmps.getD v undef,tmps.getD x undef]) w:=by simp[results,h]
theorem fe(s:ByteArray)(k:Nat):(s.extract k s.size).data.toList=s.data.toList.drop k:=by rw[eD,jJ (by rw[gH,<-aY];exact aw _)]
def dT(u:Nat->Value)(x0 x1 x2 x3 x4 x5 x6 x7 x8:Value):Array Value:=#[x0,x1,x2,x3,x4,x5,x6,x7,x8,u 9,u 10,u 11,u 12,u 13,u 14,u 15,u 16,u 17,u 18,u 19,u 20,u 21,u 22,u 23,u 24,u 25,u 26,u 27,u 28,u 29,u 30,u 31,u 32,u 33,u 34,u 35,u 36,u 37,u 38,u 39,u 40,u 41,u 42,u 43,u 44,u 45,u 46,u 47,u 48,u 49,u 50,u 51,u 52,u 53,u 54,u 55,u 56,u 57,u 58,u 59,u 60,u 61,u 62,u 63,u 64,u 65,u 66,u 67,u 68,u 69,u 70,u 71,u 72,u 73,u 74,u 75,u 76,u 77,u 78,u 79,u 80,u 81,u 82,u 83,u 84,u 85,u 86,u 87,u 88,u 89,u 90,u 91,u 92,u 93,u 94,u 95,u 96,u 97,u 98,u 99]
def wP(s:ByteArray)(Nh:Int)(w:World)(OI:Ex)(m:Nat)(a:Act)(wr:World):Prop:=∃(u:Nat->Value),∃(used fuel:Nat) (acc:List UInt8),a={ tmps:=dT u (.string s) (.int .i64 Nh) undef undef (.string ⟨#[]⟩) (.int .i64 (used:Int)) (.slice none 0 0) (u 7) (.pointer (some ⟨w.heap.size,0,none⟩)),defers:=[] }/\used<=s.size/\s.size-used<fuel/\acc.length<=m/\Hid (lL w.heap.size w.heap.size acc wr)/\Below w.heap.size w wr/\Hid (rm m fuel (s.data.toList.drop used) acc used=OI)
def Cn(s:ByteArray)(Nh:Int)(w:World)(OI:Ex)(m:Nat)(a:Act)(wr:World):Prop:=∃(u:Nat->Value),∃(used:Nat) (acc:List UInt8),a={ tmps:=dT u (.string s) (.int .i64 Nh) undef undef (.string ⟨#[]⟩) (.int .i64 (used:Int)) (.slice none 0 0) (u 7) (.pointer (some ⟨w.heap.size,0,none⟩)),defers:=[] }/\used<=s.size/\acc.length<=m/\Hid (lL w.heap.size w.heap.size acc wr)/\Below w.heap.size w wr/\Hid (qT (s.data.toList.drop used) acc used=OI)
def io(s:ByteArray)(Nh:Int)(w:World)(OI:Ex)(a:Act)(wr:World):Prop:=∃(u:Nat->Value),∃(er:Int),a={ tmps:=dT u (.string s) (.int .i64 Nh) undef undef (.string ⟨#[]⟩) (u 5) (u 6) (.int .i64 er) (.pointer (some ⟨w.heap.size,0,none⟩)),defers:=[] }/\Below w.heap.size w wr/\Hid (OI=⟨[],0,er⟩)
def dJ(s:ByteArray)(Nh:Int)(w:World)(OI:Ex)(m:Nat):Nat->Act->World->Prop
 |0,a,wr=>io s Nh w OI a wr
 |1,a,wr=>wP s Nh w OI m a wr
 |2,a,wr=>Cn s Nh w OI m a wr
 |_,_,_=>False
def M4(n:Nat):Nat->Act->World->Nat
 |0,_,_=>0
 |2,_,_=>1
 |_,a,_=>n-(intOf (a.tmps.getD 5 undef)).toNat+2
theorem ph{r sep:List UInt8}{Nh:Nat}(h:(iU r sep Nh).2=0):∃k:Nat,(iU r sep Nh).1=(k:Int)/\k+sep.length<=r.length/\k+sep.length<=Nh:=by
 unfold iU at*;have N7:=Lib.index_room (r.take Nh) sep;rw[dm]at N7;generalize Lib.index (r.take Nh) sep=ix at*;by_cases h0:0<=ix
 ·have:=N7 h0;rw[decide_eq_true h0,cond_true];exact⟨ix.toNat,by omega,by omega,by omega⟩
 ·rw[decide_eq_false h0,cond_false]at h
  cases h2:decide (Nh<=r.length)<;>rw[h2]at h<;>exact absurd h (by decide)
theorem IS(s:List UInt8):(nU s).1<4294967296:=by
 unfold nU;generalize Lib.cut s [59]=c;obtain⟨dg,more,is⟩:=c;simp only
 cases h1:(dg.isEmpty||decide (8<dg.length)||!dg.all eO)
 ·simp at h1
  have h2:=oU dg (by rw[dH];exact h1.2);have h3:(16:Nat) ^ dg.length<=16 ^ 8:=Nat.pow_le_pow_right (by decide) h1.1.2;have h4:(16:Nat) ^ 8=4294967296:=by decide
  simp only[cond_false]
  cases(!more.all ow)
  ·simp only[cond_false];omega
  ·simp only[cond_true];omega
 ·simp only[cond_true];omega
theorem wP.mk{s:ByteArray}{Nh:Int}{w:World}{OI:Ex}{m:Nat}{tm:Array Value}{wr:World}(used fuel:Nat)(acc:List UInt8)(h:tm=dT (λi=>tm.getD i undef) (.string s) (.int .i64 Nh) undef undef (.string ⟨#[]⟩) (.int .i64 (used:Int)) (.slice none 0 0) (tm.getD 7 undef) (.pointer (some ⟨w.heap.size,0,none⟩)))(h1:used<=s.size)(h2:s.size-used<fuel)(h3:acc.length<=m)(h4:Hid (lL w.heap.size w.heap.size acc wr))(h5:Below w.heap.size w wr)(h6:Hid (rm m fuel (s.data.toList.drop used) acc used=OI)):wP s Nh w OI m ⟨tm,[]⟩ wr:=⟨λi=>tm.getD i undef,used,fuel,acc,congrArg (λt=>Act.mk t []) h,h1,h2,h3,h4,h5,h6⟩
theorem Cn.mk{s:ByteArray}{Nh:Int}{w:World}{OI:Ex}{m:Nat}{tm:Array Value}{wr:World}(used:Nat)(acc:List UInt8)(h:tm=dT (λi=>tm.getD i undef) (.string s) (.int .i64 Nh) undef undef (.string ⟨#[]⟩) (.int .i64 (used:Int)) (.slice none 0 0) (tm.getD 7 undef) (.pointer (some ⟨w.heap.size,0,none⟩)))(h1:used<=s.size)(h3:acc.length<=m)(h4:Hid (lL w.heap.size w.heap.size acc wr))(h5:Below w.heap.size w wr)(h6:Hid (qT (s.data.toList.drop used) acc used=OI)):Cn s Nh w OI m ⟨tm,[]⟩ wr:=⟨λi=>tm.getD i undef,used,acc,congrArg (λt=>Act.mk t []) h,h1,h3,h4,h5,h6⟩
theorem io.mk{s:ByteArray}{Nh:Int}{w:World}{OI:Ex}{tm:Array Value}{wr:World}(er:Int)(h:tm=dT (λi=>tm.getD i undef) (.string s) (.int .i64 Nh) undef undef (.string ⟨#[]⟩) (tm.getD 5 undef) (tm.getD 6 undef) (.int .i64 er) (.pointer (some ⟨w.heap.size,0,none⟩)))(h5:Below w.heap.size w wr)(h6:OI=⟨[],0,er⟩):io s Nh w OI ⟨tm,[]⟩ wr:=⟨λi=>tm.getD i undef,er,congrArg (λt=>Act.mk t []) h,h5,am h6⟩
theorem GJ(s:ByteArray)(m:Nat)(w:World)(hM:cq w)(hs:s.size<=140737488351232)(hm:m<=262144):Calls Tryz.prog 107 #[.string s,.int .i64 m] w λe w'=>(∃tv,e=.returned (.tuple #[.string ⟨(ri s.data.toList m).body.toArray⟩,.int .i64 (ri s.data.toList m).used,tv,.int .i64 (ri s.data.toList m).err]))/\Below w.heap.size w w':=by
 obtain⟨OI,hT⟩:=aH (ri s.data.toList m);rw[hT];have S9:rm m (s.size+1) (s.data.toList.drop 0) [] 0=OI:=by rw[<-hT,aY];rfl
 have To:=ah S9;clear hT S9;have YV:max (0:Int) (min (m:Int) 262144)=(m:Int):=by omega
 go_enter Tryz.func107,Tryz.ntmps107
 go_wp2;refine um (dJ s m w OI m) (M4 s.size) 1 rfl ?_ ?_ ?_
 ·intro R hR;go_wp2_with fail
  go_step3
  have HI:=ah (tY w);have M_:=(aO w.heap.size w).alloc (aw _) (Obj.cells #[.pointer none,.slice none 0 0] 251);obtain⟨used,hu⟩:∃u:Nat,u=0:=⟨0,rfl⟩;obtain⟨fuel,hf⟩:∃u:Nat,u=s.size+1:=⟨_,rfl⟩;obtain⟨acc,Rx⟩:∃u:List UInt8,u=[]:=⟨_,rfl⟩;have hus:used<=s.size:=by omega
  have hfu:s.size-used<fuel:=by omega
  have N5:acc.length<=m:=by rw[Rx];exact a_ _
  have HT:=To;rw[<-hu,<-hf,<-Rx]at HT;rw[<-Rx]at HI;rw[show(Value.int IntKind.i64 0)=Value.int .i64 (used:Int)from by rw[hu];rfl];clear hu hf Rx To;simp only[Exit.then];apply_assumption
  refine hR _ _ ?_;show wP s m w OI m _ _
  exact wP.mk used fuel acc rfl hus hfu N5 HI M_ HT
 ·intro a wr hJ;obtain⟨u,used,fuel,acc,rfl,hus,hfu,N5,HI,M_,HT⟩:=hJ;unfold dT;have kl:=λw h=>uK (s.extract used s.size) ij 2050 w h (by rw[eu];omega) (by decide) (by decide)
  rw[fe,show(ij:ByteArray).data.toList=aK from rfl,show(ij:ByteArray).size=2 from rfl,show((2050:Nat):Int)=2050 from rfl]at kl;have Ok:=@ph (s.data.toList.drop used) aK 2050;rw[gH,<-aY,show aK.length=2 from rfl]at Ok;obtain⟨fuel,rfl⟩:∃f,fuel=f+1:=⟨fuel-1,by omega⟩;have NX:=HT.out;unfold rm at NX;have n1:(used:Int)<=s.size:=by omega
  generalize iU (s.data.toList.drop used) aK 2050=li at*;obtain⟨ix,er⟩:=li;simp only at Ok NX kl
  unfold Dy at kl;simp only at kl
  clear HT;have kM:=hM.below M_;by_cases PY:er=0
  ·subst PY;obtain⟨k,rfl,QF,OA⟩:=Ok rfl;rw[show((0:Int)!=0)=false from rfl,cond_false]at NX;rw[show((0:Int)==0)=true from rfl,cond_true]at kl;clear Ok;rw[Int.toNat_natCast]at NX;simp only[Int.toNat_natCast]at kl;rw[show((2:Nat):Int)=2 from rfl]at kl;have kz:=λw h=>Ey ((s.extract used s.size).extract 0 k) w h (by rw[eu,eu];omega)
   rw[show((s.extract used s.size).extract 0 k).data.toList=(s.data.toList.drop used).take k from by rw[eD,fe];simp only[Nat.sub_zero,na]]at kz;have hzl:=IS ((s.data.toList.drop used).take k);generalize nU ((s.data.toList.drop used).take k)=z at*;obtain⟨z,er⟩:=z;simp only at kz hzl
   change (bif er !=0 then(⟨[],0,er⟩:Ex)else bif z==0 then qT ((s.data.toList.drop used).drop (k+2)) acc (used+(k+2))else bif decide (m-acc.length<z)then⟨[],0,3⟩else bif decide (((s.data.toList.drop used).drop (k+2)).length<z)then⟨[],0,6⟩else bif !aK.isPrefixOf (((s.data.toList.drop used).drop (k+2)).drop z)then⟨[],0,bif(((s.data.toList.drop used).drop (k+2)).drop z).isPrefixOf aK then 6 else 4⟩else rm m fuel ((((s.data.toList.drop used).drop (k+2)).drop z).drop 2) (acc++((s.data.toList.drop used).drop (k+2)).take z) (used+(k+2)+z+2))=OI at NX
   generalize (s.extract used s.size).extract 0 k=ln at*;obtain⟨k2,hk⟩:∃k2,k2=k+2:=⟨_,rfl⟩;rw[show((k:Int)+2)=(k2:Int)from by omega]at kl;obtain⟨KL,KZ⟩:=az kl kz;clear kl kz;obtain⟨u2,U_⟩:∃u2,u2=used+k2:=⟨_,rfl⟩;rw[<-hk]at NX QF OA;have m2:IntKind.i64.wrap ((used:Int)+(k2:Int))=(u2:Int):=by rw[b_];omega
   have hu2s:u2<=s.size:=by omega
   have hu2p:used<u2:=by omega
   by_cases PY:er=0
   ·subst PY;rw[show((0:Int)!=0)=false from rfl,cond_false]at NX;rw[List.drop_drop,<-U_]at NX;clear QF OA hk U_;by_cases hz:z=0
    ·subst hz;rw[show((0:Nat)==0)=true from rfl,cond_true]at NX;have HT:=ah NX;clear NX hzl;go_wp2_with fail
     refine(KL.out _ kM).mono ?_;rintro e w1 ⟨rfl,rfl⟩;go_wp2_with fail
     refine(KZ.out _ kM).mono ?_;rintro e w2 ⟨rfl,M9⟩;have Oq:=bt M_ M9;have Xb:=ah (HI.out.below M9);clear KL KZ HI;go_wp2;go_step3
     first
      |(show Cn s m w OI m _ _;exact Cn.mk u2 acc rfl hu2s N5 Xb Oq HT)
      |(show Cn s m w OI m _ _/\_;exact⟨Cn.mk u2 acc rfl hu2s N5 Xb Oq HT,by show 1<s.size-((used:Int)).toNat+2;omega⟩)
    ·rw[show(z==0)=false from beq_false_of_ne hz,cond_false]at NX;have tz:((z:Int)==0)=false:=by simp;exact hz
     rw[List.drop_drop,gH,<-aY]at NX;have m3:IntKind.i64.wrap ((m:Int)-(acc.length:Int))=((m-acc.length:Nat):Int):=by rw[b_];omega
     have m4:IntKind.i64.wrap ((s.size:Int)-(u2:Int))=((s.size-u2:Nat):Int):=by rw[b_];omega
     by_cases NZ:m-acc.length<z
     ·rw[decide_eq_true NZ,cond_true]at NX;have tg:decide ((z:Int)>((m-acc.length:Nat):Int))=true:=decide_eq_true (by omega);generalize m-acc.length=room at*;go_wp2_with fail
      refine(KL.out _ kM).mono ?_;rintro e w1 ⟨rfl,rfl⟩;go_wp2_with fail
      refine(KZ.out _ kM).mono ?_;rintro e w2 ⟨rfl,M9⟩;have Oq:=bt M_ M9;have O7:Lib.IsBuilderF 251 5 w.heap.size w.heap.size (Lib.byteCells acc) w2:=HI.out.below M9;clear KL KZ HI;have kL:=Tryz.Builder_Len_f _ _ _ w2 O7;rw[show(Lib.byteCells acc).length=acc.length from by simp[Lib.byteCells]]at kL;go_wp2_with fail
      refine kL.mono ?_;rintro e w3 ⟨rfl,rfl⟩;go_wp2;go_step3
      first
       |(show io s m w OI _ _;exact io.mk 3 rfl Oq NX.symm)
       |(show io s m w OI _ _/\_;exact⟨io.mk 3 rfl Oq NX.symm,by show 0<s.size-((used:Int)).toNat+2;omega⟩)
     ·rw[decide_eq_false NZ,cond_false]at NX;have tg:decide ((z:Int)>((m-acc.length:Nat):Int))=false:=decide_eq_false (by omega);have N7:m-acc.length+acc.length=m:=by omega
      by_cases N6:s.size-u2<z
      ·rw[decide_eq_true N6,cond_true]at NX;have tg2:decide ((z:Int)>((s.size-u2:Nat):Int))=true:=decide_eq_true (by omega);clear N7;generalize m-acc.length=room at*;generalize s.size-u2=left at*;go_wp2_with fail
       refine(KL.out _ kM).mono ?_;rintro e w1 ⟨rfl,rfl⟩;go_wp2_with fail
       refine(KZ.out _ kM).mono ?_;rintro e w2 ⟨rfl,M9⟩;have Oq:=bt M_ M9;have O7:Lib.IsBuilderF 251 5 w.heap.size w.heap.size (Lib.byteCells acc) w2:=HI.out.below M9;clear KL KZ HI;have kL:=Tryz.Builder_Len_f _ _ _ w2 O7;rw[show(Lib.byteCells acc).length=acc.length from by simp[Lib.byteCells]]at kL;go_wp2_with fail
       refine kL.mono ?_;rintro e w3 ⟨rfl,rfl⟩;go_wp2;go_step3
       first
        |(show io s m w OI _ _;exact io.mk 6 rfl Oq NX.symm)
        |(show io s m w OI _ _/\_;exact⟨io.mk 6 rfl Oq NX.symm,by show 0<s.size-((used:Int)).toNat+2;omega⟩)
      ·rw[decide_eq_false N6,cond_false]at NX;have tg2:decide ((z:Int)>((s.size-u2:Nat):Int))=false:=decide_eq_false (by omega);obtain⟨u3,hu3⟩:∃u3,u3=u2+z:=⟨_,rfl⟩;have hu3s:u3<=s.size:=by omega
       have m5:IntKind.i64.wrap ((u2:Int)+(z:Int))=(u3:Int):=by rw[b_];omega
       have n2:(u3:Int)<=s.size:=by omega
       have n3:(u2:Int)<=(u3:Int):=by omega
       have n4:u2<=u3:=by omega
       have n5:(u2:Int)<=s.size:=by omega
       rw[List.drop_drop,<-hu3]at NX;rw[<-fe s u3]at NX;have Oe:((s.data.toList.drop u2).take z)=(s.extract u2 u3).data.toList:=by rw[eD,hu3,Nat.add_sub_cancel_left]
       rw[Oe]at NX;have Pb:(s.extract u2 u3).size=z:=by rw[eu];omega
       obtain⟨pc,Vs⟩:=aH (s.extract u2 u3);rw[Vs]at NX Pb Oe;have kh:=λw=>Tryz.strings_HasPrefix (s.extract u3 s.size) ij w
       have Vt:=λw=>Tryz.strings_HasPrefix ij (s.extract u3 s.size) w
       rw[show(ij:ByteArray).data.toList=aK from rfl]at kh Vt;have hpx:∀p s:List UInt8,Lib.hasPrefix s p=p.isPrefixOf s:=λ_ _=>rfl
       have Qi:(s.extract u3 s.size).size=s.size-u3:=by rw[eu];omega
       rw[hpx]at kh Vt
       have RN:aK.isPrefixOf (s.extract u3 s.size).data.toList=true->u3+2<=s.size:=by intro h;have:=(List.isPrefixOf_iff_prefix.mp h).length_le;rw[<-aY,Qi,show aK.length=2 from rfl]at this;omega
       have TU:(acc++pc.data.toList).length<=m:=by rw[bP,<-aY];omega
       have hwl:acc.length+pc.size<=140737488355328:=by omega
       clear Oe hpx Pb N7 hz;generalize m-acc.length=room at*;generalize s.size-u2=left at*
       cases Sg:aK.isPrefixOf (s.extract u3 s.size).data.toList
       ·rw[Sg]at NX kh;rw[iC,cond_true]at NX;clear RN hu3 Sg;obtain⟨r3,hr3⟩:=aH (s.extract u3 s.size);rw[hr3]at NX kh Vt
        cases PG:r3.data.toList.isPrefixOf aK
        ·rw[PG]at NX Vt;rw[cond_false]at NX;obtain⟨KH,KH2⟩:=az kh Vt;clear kh Vt PG;go_wp2_with fail
         refine(KL.out _ kM).mono ?_;rintro e w1 ⟨rfl,rfl⟩;go_wp2_with fail
         refine(KZ.out _ kM).mono ?_;rintro e w2 ⟨rfl,M9⟩;have Oq:=bt M_ M9;have O7:lL w.heap.size w.heap.size acc w2:=HI.out.below M9;clear KL KZ HI;have kL:=Tryz.Builder_Len_f _ _ _ w2 O7;rw[show(Lib.byteCells acc).length=acc.length from by simp[Lib.byteCells]]at kL;go_wp2_with fail
         refine kL.mono ?_;rintro e w3 ⟨rfl,rfl⟩;have kW:=bV _ _ acc pc _ O7 hwl Oq.size;go_wp2_with fail
         refine kW.mono ?_;rintro e w4 ⟨rfl,SJ,Nf,O3⟩;have QE:=Oq.trans Nf;have WQ:=ah SJ;clear SJ O7 kL kW O3;go_wp2_with fail
         refine(KH.out _).mono ?_;rintro e w5 ⟨rfl,rfl⟩;go_wp2_with fail
         refine(KH2.out _).mono ?_;rintro e w6 ⟨rfl,rfl⟩;go_wp2;go_step3
         first
          |(show io s m w OI _ _;exact io.mk 4 rfl QE NX.symm)
          |(show io s m w OI _ _/\_;exact⟨io.mk 4 rfl QE NX.symm,by show 0<s.size-((used:Int)).toNat+2;omega⟩)
        ·rw[PG]at NX Vt;rw[cond_true]at NX;obtain⟨KH,KH2⟩:=az kh Vt;clear kh Vt PG;go_wp2_with fail
         refine(KL.out _ kM).mono ?_;rintro e w1 ⟨rfl,rfl⟩;go_wp2_with fail
         refine(KZ.out _ kM).mono ?_;rintro e w2 ⟨rfl,M9⟩;have Oq:=bt M_ M9;have O7:lL w.heap.size w.heap.size acc w2:=HI.out.below M9;clear KL KZ HI;have kL:=Tryz.Builder_Len_f _ _ _ w2 O7;rw[show(Lib.byteCells acc).length=acc.length from by simp[Lib.byteCells]]at kL;go_wp2_with fail
         refine kL.mono ?_;rintro e w3 ⟨rfl,rfl⟩;have kW:=bV _ _ acc pc _ O7 hwl Oq.size;go_wp2_with fail
         refine kW.mono ?_;rintro e w4 ⟨rfl,SJ,Nf,O3⟩;have QE:=Oq.trans Nf;have WQ:=ah SJ;clear SJ O7 kL kW O3;go_wp2_with fail
         refine(KH.out _).mono ?_;rintro e w5 ⟨rfl,rfl⟩;go_wp2_with fail
         refine(KH2.out _).mono ?_;rintro e w6 ⟨rfl,rfl⟩;go_wp2;go_step3
         first
          |(show io s m w OI _ _;exact io.mk 6 rfl QE NX.symm)
          |(show io s m w OI _ _/\_;exact⟨io.mk 6 rfl QE NX.symm,by show 0<s.size-((used:Int)).toNat+2;omega⟩)
       ·rw[Sg]at NX kh;rw[di,cond_false]at NX;have RN:=RN Sg;obtain⟨u4,hu4⟩:∃u4,u4=u3+2:=⟨_,rfl⟩;have m6:IntKind.i64.wrap ((u3:Int)+2)=(u4:Int):=by rw[b_];omega
        have hu4s:u4<=s.size:=by omega
        rw[<-hu4]at NX;have HT:=ah NX;have hfu4:s.size-u4<fuel:=by omega
        have TC:s.size-((u4:Int)).toNat+2<s.size-((used:Int)).toNat+2:=by omega
        have KH:=ah kh;clear hu4 hu3 RN kh Vt NX Sg Qi;go_wp2_with fail
        refine(KL.out _ kM).mono ?_;rintro e w1 ⟨rfl,rfl⟩;go_wp2_with fail
        refine(KZ.out _ kM).mono ?_;rintro e w2 ⟨rfl,M9⟩;have Oq:=bt M_ M9;have O7:lL w.heap.size w.heap.size acc w2:=HI.out.below M9;clear KL KZ HI;have kL:=Tryz.Builder_Len_f _ _ _ w2 O7;rw[show(Lib.byteCells acc).length=acc.length from by simp[Lib.byteCells]]at kL;go_wp2_with fail
        refine kL.mono ?_;rintro e w3 ⟨rfl,rfl⟩;have kW:=bV _ _ acc pc _ O7 hwl Oq.size;go_wp2_with fail
        refine kW.mono ?_;rintro e w4 ⟨rfl,SJ,Nf,O3⟩;have QE:=Oq.trans Nf;have WQ:=ah SJ;clear SJ O7 kL kW O3;go_wp2_with fail
        refine(KH.out _).mono ?_;rintro e w5 ⟨rfl,rfl⟩;go_wp2;go_step3
        first
         |(show wP s m w OI m _ _;exact wP.mk u4 fuel _ rfl hu4s hfu4 TU WQ QE HT)
         |(show wP s m w OI m _ _/\_;exact⟨wP.mk u4 fuel _ rfl hu4s hfu4 TU WQ QE HT,TC⟩)
   ·have tn:(er !=0)=true:=by simp;exact PY
    rw[tn,cond_true]at NX;go_wp2_with fail
    refine(KL.out _ kM).mono ?_;rintro e w1 ⟨rfl,rfl⟩;go_wp2_with fail
    refine(KZ.out _ kM).mono ?_;rintro e w2 ⟨rfl,M9⟩;have Oq:=bt M_ M9;clear KL KZ HI;go_wp2;go_step3
    first
     |(show io s m w OI _ _;exact io.mk er rfl Oq NX.symm)
     |(show io s m w OI _ _/\_;exact⟨io.mk er rfl Oq NX.symm,by show 0<s.size-((used:Int)).toNat+2;omega⟩)
  ·have tn:(er !=0)=true:=by simp;exact PY
   have te:(er==0)=false:=by simp;exact PY
   rw[tn,cond_true]at NX;rw[te,cond_false]at kl;have KL:=ah kl;clear kl Ok;go_wp2_with fail
   refine(KL.out _ kM).mono ?_;rintro e w1 ⟨rfl,rfl⟩;clear KL HI;go_wp2;go_step3
   first
    |(show io s m w OI _ _;exact io.mk er rfl M_ NX.symm)
    |(show io s m w OI _ _/\_;exact⟨io.mk er rfl M_ NX.symm,by show 0<s.size-((used:Int)).toNat+2;omega⟩)
 ·intro l hl a wr hJ;rcases l with _|_|_|n
  ·obtain⟨u,er,rfl,M_,HT⟩:=hJ;refine⟨_,rfl,?_⟩;unfold dT;have hT:=HT.out;subst hT;clear HT;go_wp2;((try simp only[Exit.inBlock,Exit.then,kD]);refine bodyPost_ret (jq rfl _ _ _) rfl ?_)
   exact⟨⟨_,rfl⟩,M_⟩
  ·exact absurd rfl hl
  ·obtain⟨u,used,acc,rfl,hus,N5,HI,M_,HT⟩:=hJ;refine⟨_,rfl,?_⟩;unfold dT;have n1:(used:Int)<=s.size:=by omega
   have kM:=hM.below M_;have hT:=HT.out;unfold qT at hT;have Tm:(s.extract used s.size).size=s.size-used:=by rw[eu];omega
   obtain⟨rs,hr⟩:=aH (s.extract used s.size);rw[<-fe]at hT;rw[hr]at hT Tm;have kh:=λw=>Tryz.strings_HasPrefix rs ij w
   rw[show(ij:ByteArray).data.toList=aK from rfl]at kh;have hpx:∀p s:List UInt8,Lib.hasPrefix s p=p.isPrefixOf s:=λ_ _=>rfl
   rw[hpx]at kh
   have RN:aK.isPrefixOf rs.data.toList=true->used+2<=s.size:=by intro h;have:=(List.isPrefixOf_iff_prefix.mp h).length_le;rw[<-aY,Tm,show aK.length=2 from rfl]at this;omega
   have kS:=λw' h hB=>Tryz.Builder_String_any_f w.heap.size w.heap.size acc w' h hB
   clear HT hpx
   cases Sg:aK.isPrefixOf rs.data.toList
   ·rw[Sg]at hT kh;rw[cond_false]at hT;have kl:=λw h=>uK rs zf 8192 w h (by omega) (by decide) (by decide)
    rw[show(zf:ByteArray).data.toList=aK++aK from rfl,show(zf:ByteArray).size=4 from rfl,show((8192:Nat):Int)=8192 from rfl]at kl;have Ok:=@ph rs.data.toList (aK++aK) 8192;rw[<-aY,Tm,show(aK++aK).length=4 from rfl]at Ok;generalize iU rs.data.toList (aK++aK) 8192=li at*;obtain⟨ix,er⟩:=li;simp only at Ok hT kl
    unfold Dy at kl;simp only at kl
    clear RN;by_cases PY:er=0
    ·subst PY;obtain⟨k,rfl,QF,OA⟩:=Ok rfl;rw[show((0:Int)!=0)=false from rfl,cond_false]at hT;rw[show((0:Int)==0)=true from rfl,cond_true]at kl;rw[Int.toNat_natCast]at hT;simp only[Int.toNat_natCast]at kl;rw[show((4:Nat):Int)=4 from rfl]at kl;have SH:(rs.extract 0 k).data.toList=rs.data.toList.take k:=by rw[eD];simp only[Nat.sub_zero,na]
     rw[<-SH]at hT;have hlz:(rs.extract 0 k).size<=8192:=by rw[eu];omega
     generalize rs.extract 0 k=ln at*;obtain⟨k2,hk⟩:=aH (k+4);obtain⟨u2,U_⟩:=aH (used+k2);rw[show((k:Int)+4)=(k2:Int)from by omega]at kl;rw[hk,U_]at hT;have m2:IntKind.i64.wrap ((used:Int)+(k2:Int))=(u2:Int):=by rw[b_];omega
     have kp:=λw h=>tG (ln++ij) w h (by rw[nV,show(ij:ByteArray).size=2 from rfl];omega)
     rw[show(ln++ij:ByteArray).data.toList=ln.data.toList++aK from by simp[aK]]at kp;generalize bn (ln.data.toList++aK)=pr at*;obtain⟨fs,er⟩:=pr;simp only at hT
     obtain⟨KH,KL,KP,KS⟩:=bK kh kl kp kS;clear kh kl kp hk U_ Sg Tm QF OA SH Ok kS;by_cases PY:er=0
     ·subst PY;rw[show((0:Int)==0)=true from rfl,cond_true]at hT;subst hT;go_wp2_with fail
      refine(KH.out _).mono ?_;rintro e w1 ⟨rfl,rfl⟩;go_wp2_with fail
      refine(KL.out _ kM).mono ?_;rintro e w2 ⟨rfl,rfl⟩;go_wp2_with fail
      refine(KP.out _ kM).mono ?_;rintro e w3 ⟨A,C,rfl,-,Na⟩;have Qb:Lib.IsBuilderF 251 5 w.heap.size w.heap.size (Lib.byteCells acc) w3:=HI.out.below Na;have kS3:=KS.out _ Qb (bt M_ Na).size;have Ts:=bt M_ Na;clear KH KL KP KS HI Qb;go_wp2_with fail
      refine kS3.mono ?_;rintro e w4 ⟨rfl,-,Nf⟩;go_wp2;((try simp only[Exit.inBlock,Exit.then,kD]);refine bodyPost_ret (jq rfl _ _ _) rfl ?_)
      exact⟨⟨_,rfl⟩,Ts.trans Nf⟩
     ·have tn:(er==0)=false:=by simp;exact PY
      rw[tn,cond_false]at hT;go_wp2_with fail
      refine(KH.out _).mono ?_;rintro e w1 ⟨rfl,rfl⟩;go_wp2_with fail
      refine(KL.out _ kM).mono ?_;rintro e w2 ⟨rfl,rfl⟩;go_wp2_with fail
      refine(KP.out _ kM).mono ?_;rintro e w3 ⟨A,C,rfl,-,Na⟩;have Ts:=bt M_ Na;clear KH KL KP KS HI;subst hT;go_wp2;go_step3
      go_wp2;((try simp only[Exit.inBlock,Exit.then,kD]);refine bodyPost_ret (jq rfl _ _ _) rfl ?_)
      exact⟨⟨_,rfl⟩,Ts⟩
    ·have tn:(er !=0)=true:=by simp;exact PY
     have te:(er==0)=false:=by simp;exact PY
     rw[tn,cond_true]at hT;rw[te,cond_false]at kl;obtain⟨KH,KL⟩:=az kh kl;clear kh kl Ok kS;go_wp2_with fail
     refine(KH.out _).mono ?_;rintro e w1 ⟨rfl,rfl⟩;go_wp2_with fail
     refine(KL.out _ kM).mono ?_;rintro e w2 ⟨rfl,rfl⟩;clear KH KL HI;go_wp2;go_step3
     show io s m w OI _ _/\_
     exact⟨io.mk er rfl M_ hT.symm,by show(0:Nat)<1;decide⟩
   ·rw[Sg]at hT kh;rw[cond_true]at hT;have RN:=RN Sg;have m6:IntKind.i64.wrap ((used:Int)+2)=((used+2:Nat):Int):=by rw[b_];omega
    obtain⟨u2,U_⟩:=aH (used+2);rw[U_]at m6 hT;subst hT;obtain⟨KH,KS⟩:=az kh kS;clear kh U_ Sg Tm kS;go_wp2_with fail
    refine(KH.out _).mono ?_;rintro e w1 ⟨rfl,rfl⟩;have kS3:=KS.out _ HI.out M_.size;clear KH KS HI;go_wp2_with fail
    refine kS3.mono ?_;rintro e w4 ⟨rfl,-,Nf⟩;go_wp2;((try simp only[Exit.inBlock,Exit.then,kD]);refine bodyPost_ret (jq rfl _ _ _) rfl ?_)
    exact⟨⟨_,rfl⟩,M_.trans Nf⟩
  ·exact hJ.elim
theorem xY(c:UInt8):∀(j:Nat)(l:List UInt8)(a b:UInt8),l[2*j]?=some a->l[2*j+1]?=some b->fq (l.take (2*j+2)) c=(fq (l.take (2*j)) c||(decide (a.toNat<=c.toNat)&&decide (c.toNat<=b.toNat)))
 |0,[],_,_,h,_=>by simp at h
 |0,[_],_,_,_,h=>by simp at h
 |0,x::y::r,a,b,h1,h2=>by
  simp at h1 h2
  subst h1 h2;simp[fq]
 |j+1,[],_,_,h,_=>by simp at h
 |j+1,[_],_,_,h,_=>by simp at h
 |j+1,x::y::r,a,b,h1,h2=>by
  have e:2*(j+1)=2*j+1+1:=by omega
  rw[e]at h1 h2 ⊢;simp only[cv]at h1 h2;have ih:=xY c j r a b h1 h2;rw[show 2*j+1+1+2=(2*j+2)+1+1 from by omega];simp only[qA,fq];rw[ih,Bool.or_assoc]
theorem D5(p s:ByteArray)(k:Nat)(h:k<s.size)(hb:fq p.data.toList s[k]=false):aZ p.data.toList s.data.toList=false:=nr _ s k h hb
theorem qh(p s:ByteArray)(n:Nat)(w:World)(hp:p.size=2*n)(hn:n<=3)(hs:s.size<=140737488351232):Calls Tryz.prog 97 #[.string p,.string s] w λe w'=>e=.returned (.bool (aZ p.data.toList s.data.toList))/\Below w.heap.size w w':=by
 have hB:=D5 p s
 have hQ:∀k,(s.data.toList.take k).all (fq p.data.toList)=true->s.size<=k->aZ p.data.toList s.data.toList=true:=by intro k h hk;rw[eH s k hk]at h;exact h
 have hA:=λk(h:k<s.size)=>lE (fq p.data.toList) s k h
 have hS:=λc j(h0:2*j<p.size)(h:2*j+1<p.size)=>xY c j p.data.toList (p[2*j]'h0) (p[2*j+1]'h) (In p _ h0) (In p _ h)
 have hF:∀c k,p.size<=k->fq (p.data.toList.take k) c=fq p.data.toList c:=λc k h=>by rw[eH p k h]
 obtain⟨HB,HQ,HA,HS,HF,HP⟩:=eN hB hQ hA hS hF hp;clear hB hQ hA hS hF hp;generalize aZ p.data.toList s.data.toList=out at*;generalize p.data.toList=pl at*;have Ol:=aO w.heap.size w;go_enter Tryz.func97,Tryz.ntmps97
 go_wp2_with fail
 go_loopw [10] (λi wr=>∃k:Nat,k<=s.size/\i=.int .i64 k/\Hid ((s.data.toList.take k).all (fq pl)=true)/\Below w.heap.size w wr) (λi _=>s.size-(intOf i).toNat)
 case atStart=>exact⟨0,a_ _,rfl,am (by simp),Ol⟩
 case round=>
  clear Ol;obtain⟨k,hk,rfl,HK,M_⟩:=hrel;by_cases Nc:k<s.size
  ·have NB:=HB.out k Nc;have NA:=HA.out k Nc;have Nd:=HS.out s[k];have YH:=HF.out s[k];have hu:=qI s[k];obtain⟨c,hc⟩:=aH (s[k]);rw[hc]at NB NA Nd YH hu;obtain⟨R8,HGD,OJ,HFI⟩:=bK NB NA Nd YH;clear NB NA Nd YH HB HA HS HF;go_wp2_with fail
   obtain⟨wo,rfl⟩:∃wo:World,wo=wr:=⟨_,rfl⟩;go_loopw [6,7] (λb q wi=>∃j q0:Nat,j<=n/\Hid (q0=2*j)/\q0<=p.size/\q=.int .i64 (q0:Int)/\b=.bool (fq (pl.take q0) c)/\Below w.heap.size w wi) (λ_ q _=>(p.size-(intOf q).toNat))
   case atStart=>exact⟨0,0,a_ _,am rfl,a_ _,rfl,rfl,M_⟩
   case round=>
    clear M_;obtain⟨j,q0,hj,HJ,hqp,rfl,rfl,Ql⟩:=hrel;by_cases hjn:j<n
    ·have ST:=HP.out;have hq0:=HJ.out;have i7:q0+1<p.size:=by omega
     have i6:q0<p.size:=by omega
     obtain⟨A,hA⟩:=aH (p[q0]);obtain⟨B,hB⟩:=aH (p[q0+1])
     have Nd:fq (pl.take (q0+2)) c=(fq (pl.take q0) c||(decide (A.toNat<=c.toNat)&&decide (c.toNat<=B.toNat))):=by have h:=OJ.out j (by omega) (by omega);subst hA hB;subst hq0;exact h
     have e2:q0+2=2*(j+1):=by omega
     have Ng:j+1<=n:=by omega
     have i1:(q0:Int)<p.size:=by omega
     have i0:(q0:Int)+1<p.size:=by omega
     have i2:((q0:Int)).toNat=q0:=by simp
     have i3:IntKind.i64.wrap ((q0:Int)+1)=((q0:Int)+1):=by rw[b_];omega
     have i4:IntKind.i64.wrap ((q0:Int)+2)=((q0+2:Nat):Int):=by rw[b_];omega
     have i5:((q0:Int)+1).toNat=q0+1:=by omega
     have x1:(0:Int)<=(k:Int):=by omega
     have x2:(k:Int)<(s.size:Int):=by omega
     have x3:((k:Int)).toNat=k:=by simp
     have y1:(0:Int)<=(q0:Int):=by omega
     have y2:(0:Int)<=(q0:Int)+1:=by omega
     have hmz:(p.size-(q0+2):Nat)<p.size-q0:=by omega
     obtain⟨HMZ,Qn⟩:=az hmz e2;clear hmz e2 ST hq0 HP HJ OJ
     cases hb:fq (pl.take q0) c
     ·rw[hb,ig]at Nd;by_cases q1:A.toNat<=c.toNat
      rotate_left
      ·have OM:fq (pl.take (q0+2)) c=false:=by
        rw[Nd,decide_eq_false q1];rfl
       have QL:=ah OM;clear Nd OM;go_wp2_with fail
       go_quiet (fail)
       go_wp2;go_roundw
       case rel=>exact⟨j+1,q0+2,Ng,am Qn.out,by omega,by go_num,by rw[QL.out],Go.below_drewN Ql _⟩
       case measure=>first|(simp[intOf];done)|(simp[intOf];omega)|(have:=HMZ.out;simp[intOf];omega)
      ·by_cases q2:c.toNat<=B.toNat
       rotate_left
       ·have OM:fq (pl.take (q0+2)) c=false:=by
         rw[Nd,decide_eq_false q2,jU]
        have QL:=ah OM;clear Nd OM;go_wp2_with fail
        go_quiet (fail)
        go_wp2;go_roundw
        case rel=>exact⟨j+1,q0+2,Ng,am Qn.out,by omega,by go_num,by rw[QL.out],Go.below_drewN Ql _⟩
        case measure=>first|(simp[intOf];done)|(simp[intOf];omega)|(have:=HMZ.out;simp[intOf];omega)
       ·have OM:fq (pl.take (q0+2)) c=true:=by
         rw[Nd,decide_eq_true q1,decide_eq_true q2];rfl
        have QL:=ah OM;clear Nd OM;go_wp2_with fail
        go_quiet (fail)
        go_wp2;go_roundw
        case rel=>exact⟨j+1,q0+2,Ng,am Qn.out,by omega,by go_num,by rw[QL.out],Go.below_drewN Ql _⟩
        case measure=>first|(simp[intOf];done)|(simp[intOf];omega)|(have:=HMZ.out;simp[intOf];omega)
     ·rw[hb,iY]at Nd;have OM:fq (pl.take (q0+2)) c=true:=Nd;have QL:=ah OM;clear Nd OM;go_wp2_with fail
      go_quiet (fail)
      go_wp2;go_roundw
      case rel=>exact⟨j+1,q0+2,Ng,am Qn.out,by omega,by go_num,by rw[QL.out],Go.below_drewN Ql _⟩
      case measure=>first|(simp[intOf];done)|(simp[intOf];omega)|(have:=HMZ.out;simp[intOf];omega)
    ·have ST:=HP.out;have hq0:=HJ.out;have YH:=HFI.out q0 (by omega);have t1:¬q0<p.size:=by omega
     rw[YH]
     cases hb:fq pl c
     ·have ho:=R8.out hb;have HOU:=ah ho;clear OJ YH ST HP ho hq0 HJ;go_wp2;go_ret;exact⟨by rw[HOU.out];rfl,Ql⟩
     ·have ho:=HGD.out;rw[HK.out,hb]at ho;have HOU:=ah ho;clear OJ YH ST HP ho hq0 HJ;go_wp2;go_roundw
      case rel=>exact⟨k+1,by omega,by go_num,HOU,Ql⟩
      case measure=>simp[intOf];omega
  ·have hq:=HQ.out k HK.out (by omega);have HOU:=ah hq;clear hq;go_wp2;go_ret;exact⟨by rw[HOU.out];rfl,M_⟩
def dV(w:World):Prop:=Lib.TabIs Tryz.prog w ("internal/strconv.uint64pow10") .u64 Lib.pow10Tab
theorem dV.on{w w':World}(h:dV w)(hb:Below w.heap.size w w'):dV w':=Lib.tabBelow_of_tabIs h w' hb
theorem zN(w:World)(os:Array Obj):Below w.heap.size w (Sort.grow w os):=⟨rfl,rfl,rfl,by show w.heap.size<=(w.heap++os).size;simp,λk hk=>by show(w.heap++os)[k]?=_;rw[Array.getElem?_append_left hk]⟩
theorem oR(n:Int)(h0:-9223372036854775808<=n)(h1:n<=9223372036854775807)(w:World)(ht:dV w):Calls Tryz.prog 86 #[.int .i64 n] w λe w'=>e=.returned (.string ⟨(Lib.itoa n).toArray⟩)/\Below w.heap.size w w':=by refine(Tryz.strconv_Itoa n h0 h1 w ht).mono ?_;rintro e w' ⟨rfl,k,os,rfl⟩;exact⟨rfl,(Go.below_drewN (aO _ w) k).trans (zN (w.drewN k) os)⟩
def zG(r:List UInt8 × Int):Value:=.tuple #[.string ⟨r.1.toArray⟩,.int .i64 r.2]
theorem yY(mi:Int)(bad:Bool)(s:ByteArray)(w:World):Calls Tryz.prog 96 #[.int .i64 mi,.bool bad,.string s] w λe w'=>e=.returned (zG (iu mi bad s.data.toList))/\w=w':=by
 have hd:iu mi bad s.data.toList=bif bad||decide (mi<0)||decide (1<mi)then([],4)else bif decide (2048<s.size)then([],3)else(s.data.toList,0):=by rw[aY];rfl
 rw[hd];clear hd;unfold zG;have q2:decide (mi>1)=decide (1<mi):=rfl
 cases bad
 ·cases h1:decide (mi<0)
  ·cases h2:decide (1<mi)
   ·rw[h2]at q2;by_cases h3:s.size<=2048
    ·have t3:decide ((s.size:Int)>2048)=false:=by simp;omega
     rw[show decide (2048<s.size)=false from by simp;omega];simp only[mU,cond_false,bN];go_enter Tryz.func96,Tryz.ntmps96
     go_wp2;go_ret2
     exact⟨rfl,rfl⟩
    ·have t3:decide ((s.size:Int)>2048)=true:=by simp;omega
     rw[show decide (2048<s.size)=true from by simp;omega];go_enter Tryz.func96,Tryz.ntmps96
     go_wp2;go_ret2
     exact⟨rfl,rfl⟩
   ·rw[h2]at q2;go_enter Tryz.func96,Tryz.ntmps96
    go_wp2;go_ret2
    exact⟨rfl,rfl⟩
  ·go_enter Tryz.func96,Tryz.ntmps96
   go_wp2;go_ret2
   exact⟨rfl,rfl⟩
 ·go_enter Tryz.func96,Tryz.ntmps96
  go_wp2;go_ret2
  exact⟨rfl,rfl⟩
theorem uM(c:UInt8)(w:World):Calls Tryz.prog 160 #[.int .u8 c.toNat] w λe w'=>e=.returned (.bool (f_ c))/\w=w':=by
 have hd:f_ c=(decide ((c.toNat:Int)>=48)&&decide ((c.toNat:Int)<=57)):=by unfold f_;rw[jj];simp;omega
 rw[hd];clear hd
 cases h1:decide ((c.toNat:Int)>=48)
 ·go_enter Tryz.func160,Tryz.ntmps160
  go_wp2;go_ret;exact⟨rfl,rfl⟩
 ·cases h2:decide ((c.toNat:Int)<=57)
  ·go_enter Tryz.func160,Tryz.ntmps160
   go_wp2;go_ret;exact⟨rfl,rfl⟩
  ·go_enter Tryz.func160,Tryz.ntmps160
   go_wp2;go_ret;exact⟨rfl,rfl⟩
theorem ar{w:World}{b j:Nat}{v:Value}{cs:Array Value}{T:TypeId}{m:Nat × Nat}(h:w.heap[b]?=some (.cells cs T m)):(w.setCell ⟨b,j,none⟩ v).heap[b]?=some (.cells (cs.setIfInBounds j v) T m):=by simp[World.setCell,fJ,h]
theorem al(w:World)(g j:Nat)(v:Value):w.grownBy (w.setCell ⟨g,j,none⟩ v) (some g):=⟨rfl,rfl,rfl,by simp,λk _ Ng=>fE _ _ _ _ (by exact λe=>Ng (by rw[e]))⟩
theorem fj{w w':World}{b B:Nat}(h:w.grownBy w' (some b))(hb:B<=b)(hB:B<=w.heap.size):Below B w w':=⟨h.os,h.tape,h.output,h.size,λj hj=>h.block j (by omega) (by intro x;cases x;omega)⟩
theorem ny{w w':World}{o:Option Nat}(h:Below w.heap.size w w'):w.grownBy w' o:=⟨h.os,h.tape,h.output,h.size,λj hj _=>h.block j hj⟩
def gT(b:Nat)(rest:ByteArray)(bad:Bool)(w:World):Prop:=w.heap[b]?=some (.cells #[.string rest,.bool bad] 184 (0,0))
theorem gT.below{b:Nat}{rest:ByteArray}{bad:Bool}{w w':World}(h:gT b rest bad w)(hb:Below w.heap.size w w'):gT b rest bad w':=(hb.block b (ab h 0).2.2).trans h
theorem gT.rest{b:Nat}{rest r2:ByteArray}{bad:Bool}{w:World}(h:gT b rest bad w):gT b r2 bad (w.setCell ⟨b,0,none⟩ (.string r2)):=ar h
theorem gT.bad{b:Nat}{rest:ByteArray}{bad c2:Bool}{w:World}(h:gT b rest bad w):gT b rest c2 (w.setCell ⟨b,1,none⟩ (.bool c2)):=ar h
theorem nB(b:Nat)(rest:ByteArray)(bad:Bool)(w:World)(hr:gT b rest bad w)(hM:cq w)(hs:rest.size<=1000000):Calls Tryz.prog 102 #[.pointer (some ⟨b,0,none⟩)] w λe w'=>e=.returned (.string ⟨(Lib.cut rest.data.toList [32]).1.toArray⟩)/\gT b ⟨(Lib.cut rest.data.toList [32]).2.1.toArray⟩ (bad||!(Lib.cut rest.data.toList [32]).2.2) w'/\w.grownBy w' (some b):=by
 have k1:=iL rest gY w hM hs;rw[show(gY:ByteArray).data.toList=[32]from rfl]at k1;generalize Lib.cut rest.data.toList [32]=c at*;obtain⟨c1,c2,c3⟩:=c;simp only at k1 ⊢
 have c0:=(ab hr 0).1;have d1:=(ab hr 1).1;simp only[cT,cv,cS]at c0 d1;obtain⟨K1,HR⟩:=az k1 hr;clear k1 hr;go_enter Tryz.func102,Tryz.ntmps102
 go_wp2_with fail
 refine K1.out.mono ?_;rintro e w1 ⟨rfl,M8⟩;have O0:=HR.out.below M8;have e0:=(ab O0 0).1;have e1:=(ab O0 1).1;have f0:=(ab O0 0).2.1;have f1:=(ab O0 1).2.1;simp only[cT,cv,cS]at e0 e1;have hg:=ny (o:=some b) M8;obtain⟨SP,HG⟩:=az O0 hg;clear O0 M8 c0 d1 HR hg
 cases bad
 ·have Om:=(SP.out.bad (c2:=!c3)).rest (r2:=⟨c2.toArray⟩);have N8:=(HG.out.trans (al _ b 1 (.bool (!c3)))).trans (al _ b 0 (.string ⟨c2.toArray⟩));obtain⟨Pk,Se⟩:=az Om N8;clear Om N8 SP HG;go_wp2;go_ret;exact⟨rfl,Pk.out,Se.out⟩
 ·have Om:=(SP.out.bad (c2:=true)).rest (r2:=⟨c2.toArray⟩);have N8:=(HG.out.trans (al _ b 1 (.bool true))).trans (al _ b 0 (.string ⟨c2.toArray⟩));obtain⟨Pk,Se⟩:=az Om N8;clear Om N8 SP HG;go_wp2;go_ret;exact⟨rfl,Pk.out,Se.out⟩
theorem tB(b:Nat)(rest:ByteArray)(bad:Bool)(p s:ByteArray)(n:Nat)(w:World)(hr:gT b rest bad w)(hp:p.size=2*n)(hn:n<=3)(hs:s.size<=1000000):Calls Tryz.prog 103 #[.pointer (some ⟨b,0,none⟩),.func (Fn.func 97) #[] #[],.string p,.string s] w λe w'=>e=.returned (.tuple #[])/\gT b rest (bad||!aZ p.data.toList s.data.toList) w'/\w.grownBy w' (some b):=by
 have k1:=qh p s n w hp hn (by omega);generalize aZ p.data.toList s.data.toList=hl at*;have d1:=(ab hr 1).1;have f1:=(ab hr 1).2.1;simp only[cT,cv,cS]at d1;obtain⟨K1,HR⟩:=az k1 hr;clear k1 hr hp
 cases bad
 ·go_enter Tryz.func103,Tryz.ntmps103
  go_wp2_with fail
  refine K1.out.mono ?_;rintro e w1 ⟨rfl,M8⟩;have O0:=HR.out.below M8;have g1:=(ab O0 1).2.1;have e1:=(ab O0 1).1;simp only[cT,cv,cS]at e1;have hg:=ny (o:=some b) M8;have Om:=O0.bad (c2:=!hl);have N8:=hg.trans (al _ b 1 (.bool (!hl)));obtain⟨Pk,Se⟩:=az Om N8;clear Om N8 O0 hg M8 d1 f1;go_wp2;go_end0
  exact⟨rfl,Pk.out,Se.out⟩
 ·have Om:=HR.out.bad (c2:=true);have N8:=al w b 1 (.bool true);obtain⟨Pk,Se⟩:=az Om N8;clear Om N8;go_enter Tryz.func103,Tryz.ntmps103
  go_wp2;go_end0
  exact⟨rfl,Pk.out,Se.out⟩
theorem pu(s:List UInt8):jt true s=(0,4):=rfl
theorem L1(s:List UInt8)(h:jT.isPrefixOf s=false):jt false s=(0,4):=by unfold jt;rw[h];rfl
theorem Ki(s:List UInt8)(h:s.length≠8):jt false s=(0,4):=by
 unfold jt;rw[show(s.length !=8)=true from by simp[h]]
 cases jT.isPrefixOf s<;>rfl
theorem Lx(x y z:UInt8):jt false [72,84,84,80,47,x,y,z]=bif !f_ x||(y !=46)||!f_ z then(0,4)else bif x !=49 then(0,9)else(bif z==48 then 0 else 1,0):=by unfold jt;rw[show jT.isPrefixOf [72,84,84,80,47,x,y,z]=true from by simp[jT,List.isPrefixOf]];rfl
theorem B3(x:UInt8)(n:Nat)(hn:n<256):(x==UInt8.ofNat n)=((x.toNat:Int)==(n:Int)):=by
 rw[jj];simp only[beq_iff_eq];constructor
 ·rintro rfl;simp;omega
 ·intro h;apply UInt8.toNat_inj.1
  simp;omega
theorem qC(b:Nat)(rest:ByteArray)(bad:Bool)(s:ByteArray)(w:World)(hr:gT b rest bad w):Calls Tryz.prog 104 #[.pointer (some ⟨b,0,none⟩),.string s] w λe w'=>e=.returned (.tuple #[.int .i64 (jt bad s.data.toList).1,.int .i64 (jt bad s.data.toList).2])/\(∃c,gT b rest c w')/\w.grownBy w' (some b):=by
 have k1:=Tryz.strings_CutPrefix s ⟨#[72,84,84,80,47]⟩;rw[show(⟨#[72,84,84,80,47]⟩:ByteArray).data.toList=jT from rfl]at k1;unfold Lib.trimPrefix Lib.hasPrefix at k1;have HR:=ah hr;clear hr
 cases bad
 ·cases hp:jT.isPrefixOf s.data.toList
  ·rw[L1 _ hp];rw[hp]at k1;have K1:=ah k1;clear k1 hp;generalize (if false=true then List.drop jT.length s.data.toList else s.data.toList)=tl at*;have e1:=(ab HR.out 1).1;have f1:=(ab HR.out 1).2.1;simp only[cT,cv,cS]at e1;have Om:=HR.out.bad (c2:=true);have N8:=al w b 1 (.bool true);obtain⟨Pk,Se⟩:=az Om N8;clear Om N8;go_enter Tryz.func104,Tryz.ntmps104
   go_wp2_with fail
   refine(K1.out _).mono ?_;rintro e w1 ⟨rfl,rfl⟩;go_wp2;go_ret2
   exact⟨rfl,⟨_,Pk.out⟩,Se.out⟩
  ·rw[hp]at k1;simp only[if_true]at k1
   obtain⟨t,ht⟩:∃t,s.data.toList=jT++t:=by obtain⟨t,ht⟩:=List.isPrefixOf_iff_prefix.1 hp;exact⟨t,ht.symm⟩
   rw[ht]at k1 ⊢;rw[List.drop_left]at k1;have hl:(jT++t).length=5+t.length:=by rw[bP];rfl
   by_cases h3:t.length=3
   ·match t,h3 with
    | [x,y,z],_=>
     clear ht hp hl;have kx:=λw=>uM x w
     have kz:=λw=>uM z w
     have hv:=Lx x y z;rw[show jT++[x,y,z]=[72,84,84,80,47,x,y,z]from rfl,hv];have hy:(y !=46)=((y.toNat:Int)!=46):=by unfold bne;rw[show(46:UInt8)=UInt8.ofNat 46 from rfl,B3 y 46 (by decide)];rfl
     have PQ:(x !=49)=((x.toNat:Int)!=49):=by unfold bne;rw[show(49:UInt8)=UInt8.ofNat 49 from rfl,B3 x 49 (by decide)];rfl
     rw[hy,PQ];clear hv hy PQ;obtain⟨K1,KX,KZ⟩:=bu k1 kx kz;clear k1 kx kz;have e1:=(ab HR.out 1).1;have f1:=(ab HR.out 1).2.1;simp only[cT,cv,cS]at e1;have Om:=HR.out.bad (c2:=true);have N8:=al w b 1 (.bool true);obtain⟨Pk,Se⟩:=az Om N8;clear Om N8;obtain⟨T,RU,g0,g1,g2,hTT⟩:∃(T:ByteArray) (hz:T.size=3),T[0]=x/\T[1]=y/\T[2]=z/\(⟨[x,y,z].toArray⟩:ByteArray)=T:=⟨⟨[x,y,z].toArray⟩,rfl,rfl,rfl,rfl,rfl⟩;rw[hTT]at K1;clear hTT
     cases hdx:f_ x
     ·rw[hdx]at KX;go_enter Tryz.func104,Tryz.ntmps104
      go_wp2_with fail
      refine(K1.out _).mono ?_;rintro e w1 ⟨rfl,rfl⟩;go_wp2_with fail
      refine(KX.out _).mono ?_;rintro e w1 ⟨rfl,rfl⟩;go_wp2;go_ret2
      exact⟨rfl,⟨_,Pk.out⟩,Se.out⟩
     ·rw[hdx]at KX
      cases hy:((y.toNat:Int)!=46)
      ·cases hdz:f_ z
       ·rw[hdz]at KZ;go_enter Tryz.func104,Tryz.ntmps104
        go_wp2_with fail
        refine(K1.out _).mono ?_;rintro e w1 ⟨rfl,rfl⟩;go_wp2_with fail
        refine(KX.out _).mono ?_;rintro e w1 ⟨rfl,rfl⟩;go_wp2_with fail
        refine(KZ.out _).mono ?_;rintro e w1 ⟨rfl,rfl⟩;go_wp2;go_ret2
        exact⟨rfl,⟨_,Pk.out⟩,Se.out⟩
       ·rw[hdz]at KZ
        cases PQ:((x.toNat:Int)!=49)
        ·have hzb:48<=z.toNat/\z.toNat<=57:=by unfold f_ at hdz;simp at hdz;exact hdz
         have z1:IntKind.u8.wrap ((z.toNat:Int)-48)=(z.toNat:Int)-48:=by rw[IntKind.wrap_u8];omega
         have z2:IntKind.i64.wrap ((z.toNat:Int)-48)=(z.toNat:Int)-48:=by rw[b_];omega
         have hm:min 1 ((z.toNat:Int)-48)=bif z==48 then 0 else 1:=by
          rw[show(48:UInt8)=UInt8.ofNat 48 from rfl,B3 z 48 (by decide)]
          cases hq:((z.toNat:Int)==(48:Nat))
          ·simp at hq;simp;omega
          ·simp at hq;simp;omega
         have HM:=ah hm;clear hm;go_enter Tryz.func104,Tryz.ntmps104
         go_wp2_with fail
         refine(K1.out _).mono ?_;rintro e w1 ⟨rfl,rfl⟩;go_wp2_with fail
         refine(KX.out _).mono ?_;rintro e w1 ⟨rfl,rfl⟩;go_wp2_with fail
         refine(KZ.out _).mono ?_;rintro e w1 ⟨rfl,rfl⟩;go_wp2;go_ret2
         refine⟨?_,⟨_,HR.out⟩,ny (aO _ _)⟩;rw[<-HM.out];rfl
        ·
         go_enter Tryz.func104,Tryz.ntmps104
         go_wp2_with fail
         refine(K1.out _).mono ?_;rintro e w1 ⟨rfl,rfl⟩;go_wp2_with fail
         refine(KX.out _).mono ?_;rintro e w1 ⟨rfl,rfl⟩;go_wp2_with fail
         refine(KZ.out _).mono ?_;rintro e w1 ⟨rfl,rfl⟩;go_wp2;go_ret2
         exact⟨rfl,⟨_,HR.out⟩,ny (aO _ _)⟩
      ·
       go_enter Tryz.func104,Tryz.ntmps104
       go_wp2_with fail
       refine(K1.out _).mono ?_;rintro e w1 ⟨rfl,rfl⟩;go_wp2_with fail
       refine(KX.out _).mono ?_;rintro e w1 ⟨rfl,rfl⟩;go_wp2;go_ret2
       exact⟨rfl,⟨_,Pk.out⟩,Se.out⟩
   ·rw[Ki _ (by omega)];have hz:(⟨t.toArray⟩:ByteArray).size≠3:=by rw[aR];exact h3
    have t1:(((⟨t.toArray⟩:ByteArray).size:Int)!=3)=true:=by simp;omega
    have K1:=ah k1;clear k1 ht hp hl h3 hz;generalize (⟨t.toArray⟩:ByteArray)=T at*;have e1:=(ab HR.out 1).1;have f1:=(ab HR.out 1).2.1;simp only[cT,cv,cS]at e1;have Om:=HR.out.bad (c2:=true);have N8:=al w b 1 (.bool true);obtain⟨Pk,Se⟩:=az Om N8;clear Om N8;go_enter Tryz.func104,Tryz.ntmps104
    go_wp2_with fail
    refine(K1.out _).mono ?_;rintro e w1 ⟨rfl,rfl⟩;go_wp2;go_ret2
    exact⟨rfl,⟨_,Pk.out⟩,Se.out⟩
 ·rw[pu];have K1:=ah k1;clear k1;generalize (if jT.isPrefixOf s.data.toList=true then List.drop jT.length s.data.toList else s.data.toList)=tl at*;generalize jT.isPrefixOf s.data.toList=hp at*;have e1:=(ab HR.out 1).1;have f1:=(ab HR.out 1).2.1;simp only[cT,cv,cS]at e1;have Om:=HR.out.bad (c2:=true);have N8:=al w b 1 (.bool true);obtain⟨Pk,Se⟩:=az Om N8;clear Om N8;go_enter Tryz.func104,Tryz.ntmps104
  go_wp2_with fail
  refine(K1.out _).mono ?_;rintro e w1 ⟨rfl,rfl⟩;go_wp2;go_ret2
  exact⟨rfl,⟨_,Pk.out⟩,Se.out⟩
structure Hv where
 key:ByteArray
 st:Int
 re:ByteArray
 mi:Int
 fA:Option Addr
 fn:Nat
 fc:Nat
 bo:ByteArray
 asked:Int
 got:Int
 vA:Option Addr
 vn:Nat
 vc:Nat
 num:Int
 fl:List aU
 vl:List aU
def Hv.val(x:Hv):Value:=.agg #[.string x.key,.int .i64 x.st,.string x.re,.int .i64 x.mi,.slice x.fA x.fn x.fc,.string x.bo,.int .i64 x.asked,.int .i64 x.got,.slice x.vA x.vn x.vc,.int .i64 x.num]
def JM(w:World)(b:Nat)(x:Hv):Prop:=w.cell? ⟨b,2,none⟩=some (.string x.key)/\w.cell? ⟨b,3,none⟩=some (.int .i64 x.st)/\w.cell? ⟨b,4,none⟩=some (.string x.re)/\w.cell? ⟨b,5,none⟩=some (.int .i64 x.mi)/\w.cell? ⟨b,6,none⟩=some (.slice x.fA x.fn x.fc)/\w.cell? ⟨b,7,none⟩=some (.string x.bo)/\w.cell? ⟨b,8,none⟩=some (.int .i64 x.asked)/\w.cell? ⟨b,9,none⟩=some (.int .i64 x.got)/\w.cell? ⟨b,10,none⟩=some (.slice x.vA x.vn x.vc)/\w.cell? ⟨b,11,none⟩=some (.int .i64 x.num)
structure cw where
 key:ByteArray
 size:Int
 x:Hv
abbrev Lk:=Nat × cw
def ptr(b:Nat):Value:=.pointer (some ⟨b,0,none⟩)
def hd(xs:List Lk)(z:Nat):Nat:=match xs with
 | []=>z
 |(b,_)::_=>b
def gw:Nat->List Lk->Nat
 |a,[]=>a
 |_,(b,_)::t=>gw b t
theorem ww(p q:List Lk)(z:Nat):hd (p++q) z=hd p (hd q z):=by cases p<;>rfl
theorem oY:∀(p q:List Lk)(a:Nat),gw a (p++q)=gw (gw a p) q
 | [],_,_=>rfl
 |(b,_)::t,q,_=>oY t q b
theorem ol{xs:List Lk}{z:Nat}:hd xs z∈xs.map Prod.fst\/(xs=[]/\hd xs z=z):=by
 cases xs with
 |nil=>exact Or.inr ⟨rfl,rfl⟩
 |cons p t=>exact Or.inl (by simp[hd])
theorem fS:∀{xs:List Lk}{a:Nat},gw a xs∈xs.map Prod.fst\/(xs=[]/\gw a xs=a)
 | [],_=>Or.inr ⟨rfl,rfl⟩
 |(b,e)::t,a=>by
  left
  rcases@fS t b with h|⟨rfl,h⟩
  ·rw[gw,bw];exact bJ _ h
  ·rw[gw,bw];simp[h]
section
variable (LT:TypeId)
def eX(w:World)(b:Nat)(e:cw)(va vf:Value):Prop:=w.heap[b]?=some (.cells #[.string e.key,.int .i64 e.size,.string e.x.key,.int .i64 e.x.st,.string e.x.re,.int .i64 e.x.mi,.slice e.x.fA e.x.fn e.x.fc,.string e.x.bo,.int .i64 e.x.asked,.int .i64 e.x.got,.slice e.x.vA e.x.vn e.x.vc,.int .i64 e.x.num,va,vf] LT (0,0))
variable {LT}
theorem eX.set3{w:World}{b:Nat}{e:cw}{va vf:Value}(h:eX LT w b e va vf)(v:Value):eX LT (w.setCell ⟨b,12,none⟩ v) b e v vf:=by unfold eX at*;simp[World.setCell,fJ,h]
theorem eX.set4{w:World}{b:Nat}{e:cw}{va vf:Value}(h:eX LT w b e va vf)(v:Value):eX LT (w.setCell ⟨b,13,none⟩ v) b e va v:=by unfold eX at*;simp[World.setCell,fJ,h]
theorem aG(w:World)(c j b:Nat)(v:Value)(h:b≠c):(w.setCell ⟨c,j,none⟩ v).heap[b]?=w.heap[b]?:=fE _ _ _ _ h
theorem eX.other{w:World}{b c j:Nat}{e:cw}{va vf v:Value}(h:eX LT w b e va vf)(Ng:b≠c):eX LT (w.setCell ⟨c,j,none⟩ v) b e va vf:=(aG w c j b v Ng).trans h
theorem eX.of{w w':World}{b:Nat}{e:cw}{va vf:Value}(h:eX LT w b e va vf)(hb:w'.heap[b]?=w.heap[b]?):eX LT w' b e va vf:=hb.trans h
theorem eX.cells{w:World}{b:Nat}{e:cw}{va vf:Value}(h:eX LT w b e va vf):w.cell? ⟨b,0,none⟩=some (.string e.key)/\w.cell? ⟨b,1,none⟩=some (.int .i64 e.size)/\JM w b e.x/\w.cell? ⟨b,12,none⟩=some va/\w.cell? ⟨b,13,none⟩=some vf/\(∀j,w.frozen? ⟨b,j,none⟩=false)/\b<w.heap.size:=by
 have hl:b<w.heap.size:=by
  rcases ef b w.heap.size with h'|h'
  ·exact h'
  ·unfold eX at h;simp[fy h']at h
 unfold eX at h;refine⟨?_,?_,?_,?_,?_,λj=>?_,hl⟩<;>simp[JM,World.cell?,World.frozen?,h]
variable (LT)
def pC(w:World):Nat->List Lk->Nat->Prop
 |_,[],_=>True
 |a,(b,e)::t,z=>eX LT w b e (ptr a) (ptr (hd t z))/\pC w b t z
variable {LT}
theorem pC.of{w w':World}:∀{xs:List Lk}{a z:Nat},pC LT w a xs z->(∀b∈xs.map Prod.fst,w'.heap[b]?=w.heap[b]?)->pC LT w' a xs z
 | [],_,_,_,_=>trivial
 |(b,e)::t,a,z,h,hb=>⟨h.1.of (hb b (by simp)),h.2.of (λc hc=>hb c (by rw[bw];exact bJ _ hc))⟩
theorem js{w:World}:∀{p q:List Lk}{a z:Nat},pC LT w a (p++q) z<->pC LT w a p (hd q z)/\pC LT w (gw a p) q z
 | [],q,a,z=>⟨λh=>⟨trivial,h⟩,λh=>h.2⟩
 |(b,e)::t,q,a,z=>by
  have ih:=@js w t q b z;show(eX LT w b e (ptr a) (ptr (hd (t++q) z))/\pC LT w b (t++q) z)<->(eX LT w b e (ptr a) (ptr (hd t (hd q z)))/\pC LT w b t (hd q z))/\pC LT w (gw b t) q z
  rw[ih,ww];exact⟨λ⟨h1,h2,h3⟩=>⟨⟨h1,h2⟩,h3⟩,λ⟨⟨h1,h2⟩,h3⟩=>⟨h1,h2,h3⟩⟩
theorem pC.setF{w:World}{p:List Lk}{a z z':Nat}(h:pC LT w a p z)(Ng:p≠[])(Oi:(p.map Prod.fst).Nodup):pC LT (w.setCell ⟨gw a p,13,none⟩ (ptr z')) a p z':=by
 obtain⟨q,⟨b,e⟩,rfl⟩:∃q y,p=q++[y]:=⟨p.dropLast,p.getLast Ng,(List.dropLast_concat_getLast Ng).symm⟩;rw[js]at h ⊢;rw[oY];show pC LT _ a q b/\(eX LT _ b e _ _/\True)
 have hb:b ∉ q.map Prod.fst:=by rw[cO,List.nodup_append]at Oi;intro hm;exact Oi.2.2 b hm b (by simp) rfl
 refine⟨h.1.of (λc hc=>aG _ _ _ _ _ (λ(x:c=b)=>hb (by rw[<-x];exact hc))),h.2.1.set4 _,trivial⟩
theorem pC.setA{w:World}{b:Nat}{e:cw}{t:List Lk}{a a' z:Nat}(h:pC LT w a ((b,e)::t) z)(hb:b ∉ t.map Prod.fst):pC LT (w.setCell ⟨b,12,none⟩ (ptr a')) a' ((b,e)::t) z:=⟨h.1.set3 _,h.2.of (λc hc=>aG _ _ _ _ _ (λx=>hb (by rw[<-x];exact hc)))⟩
variable (LT)
def mR(ze:cw)(w:World)(r:Nat)(xs:List Lk):Prop:=eX LT w r ze (ptr (gw r xs)) (ptr (hd xs r))/\pC LT w r xs r
variable {LT}
theorem mR.of{ze:cw}{w w':World}{r:Nat}{xs:List Lk}(h:mR LT ze w r xs)(hb:∀b∈r::xs.map Prod.fst,w'.heap[b]?=w.heap[b]?):mR LT ze w' r xs:=⟨h.1.of (hb r (by simp)),h.2.of (λb h'=>hb b (bJ _ h'))⟩
theorem pC.at{w:World}:∀{xs:List Lk}{a z:Nat},pC LT w a xs z->∀c∈xs.map Prod.fst,∃e va vf,eX LT w c e va vf
 |(b,e)::t,a,z,h,c,hc=>by
  rw[bw]at hc;rcases cZ.1 hc with rfl|hc
  ·exact⟨_,_,_,h.1⟩
  ·exact h.2.at c hc
theorem pC.mem{w:World}:∀{xs:List Lk}{a z:Nat},pC LT w a xs z->∀{l:Nat}{e:cw},(l,e)∈xs->∃va vf,eX LT w l e va vf
 |(b,e)::t,a,z,h,l,e',hc=>by
  rcases cZ.1 hc with hc|hc
  ·cases hc;exact⟨_,_,h.1⟩
  ·exact h.2.mem hc
theorem mR.at{ze:cw}{w:World}{r:Nat}{xs:List Lk}(h:mR LT ze w r xs)(c:Nat)(hc:c∈r::xs.map Prod.fst):∃e va vf,eX LT w c e va vf:=by
 rcases cZ.1 hc with rfl|hc
 ·exact⟨_,_,_,h.1⟩
 ·exact h.2.at c hc
theorem mR.out{ze:cw}{w:World}{r l:Nat}{e:cw}{p q:List Lk}(h:mR LT ze w r (p++(l,e)::q))(Oi:(r::(p++(l,e)::q).map Prod.fst).Nodup):mR LT ze ((w.setCell ⟨gw r p,13,none⟩ (ptr (hd q r))).setCell ⟨hd q r,12,none⟩ (ptr (gw r p))) r (p++q):=by
 obtain⟨hr,hs⟩:=h;rw[js]at hs;obtain⟨h1,h2⟩:=hs;have h2':pC LT w l q r:=h2.2;have Ul:pC LT w r p l:=h1;rw[oY,ww]at hr;have hr':eX LT w r ze (ptr (gw l q)) (ptr (hd p l)):=hr;rw[dK,cO,bw,List.nodup_append]at Oi;obtain⟨QZ,hpn,Vu,PG⟩:=Oi;rw[dK]at Vu;have Qf:r ∉ p.map Prod.fst:=λhm=>QZ (List.mem_append_left _ hm)
 have hrq:r ∉ q.map Prod.fst:=λhm=>QZ (sE _ (bJ _ hm))
 have hpq':∀a∈p.map Prod.fst,∀b∈q.map Prod.fst,a≠b:=λa ha b hb=>PG a ha b (bJ _ hb)
 have sp:pC LT ((w.setCell ⟨gw r p,13,none⟩ (ptr (hd q r))).setCell ⟨hd q r,12,none⟩ (ptr (gw r p))) r p (hd q r):=by
  by_cases hp:p=[]
  ·subst hp;trivial
  ·refine(Ul.setF hp hpn).of (λc hc=>aG _ _ _ _ _ ?_);rintro rfl;rcases@ol q r with hm|⟨_,hm⟩
   ·exact hpq' _ hc _ hm rfl
   ·rw[hm]at hc;exact Qf hc
 have sq:pC LT ((w.setCell ⟨gw r p,13,none⟩ (ptr (hd q r))).setCell ⟨hd q r,12,none⟩ (ptr (gw r p))) (gw r p) q r:=by
  cases q with
  |nil=>trivial
  |cons y t=>
   obtain⟨z,ez⟩:=y
   have h3:pC LT (w.setCell ⟨gw r p,13,none⟩ (ptr (hd ((z,ez) :: t) r))) l ((z,ez) :: t) r:=h2'.of (fun c hc=>aG _ _ _ _ _ (by
    rintro rfl;rcases@fS p r with hm|⟨_,hm⟩
    ·exact hpq' _ hm _ hc rfl
    ·rw[hm]at hc;exact hrq hc))
   have hz:z ∉ t.map Prod.fst:=by have:=Vu.2;rw[bw,dK]at this;exact this.1
   exact h3.setA hz
 refine⟨?_,js.2 ⟨sp,sq⟩⟩;rw[oY,ww];by_cases hp:p=[]
 ·subst hp;have k:=hr'.set4 (ptr (hd q r));by_cases hq:q=[]
  ·subst hq;exact k.set3 (ptr r)
  ·have Ng:r≠hd q r:=by
    intro x;rcases@ol q r with hm|⟨hm,_⟩
    ·exact hrq (by rw[x];exact hm)
    ·exact hq hm
   have:=k.other (c:=hd q r) (j:=12) (v:=ptr r) Ng
   have e:gw l q=gw r q:=by
    cases q with
    |nil=>exact absurd rfl hq
    |cons y t=>rfl
   rw[e]at this;exact this
 ·have hl:gw r p≠r:=by
   intro x;rcases@fS p r with hm|⟨hm,_⟩
   ·rw[x]at hm;exact Qf hm
   ·exact hp hm
  have e2:hd p l=hd p (hd q r):=by
   cases p with
   |nil=>exact absurd rfl hp
   |cons y t=>rfl
  rw[e2]at hr';have k:=hr'.other (c:=gw r p) (j:=13) (v:=ptr (hd q r)) (λx=>hl x.symm);by_cases hq:q=[]
  ·subst hq;exact k.set3 (ptr (gw r p))
  ·have Ng:r≠hd q r:=by
    intro x;rcases@ol q r with hm|⟨hm,_⟩
    ·exact hrq (by rw[x];exact hm)
    ·exact hq hm
   have:=k.other (c:=hd q r) (j:=12) (v:=ptr (gw r p)) Ng
   have e:gw l q=gw (gw r p) q:=by
    cases q with
    |nil=>exact absurd rfl hq
    |cons y t=>rfl
   rw[e]at this;exact this
theorem mR.last{ze:cw}{w:World}{r l:Nat}{e:cw}{va vf:Value}{xs:List Lk}(h:mR LT ze w r xs)(hl:eX LT w l e va vf)(Oi:(r::xs.map Prod.fst).Nodup)(SH:l ∉ r::xs.map Prod.fst):mR LT ze ((((w.setCell ⟨l,12,none⟩ (ptr (gw r xs))).setCell ⟨l,13,none⟩ (ptr r)).setCell ⟨gw r xs,13,none⟩ (ptr l)).setCell ⟨r,12,none⟩ (ptr l)) r (xs++[(l,e)]):=by
 obtain⟨hr,hs⟩:=h;have Xy:l≠r:=λx=>SH (by simp[x])
 have TS:l ∉ xs.map Prod.fst:=λx=>SH (bJ _ x)
 rw[dK]at Oi
 have Q5:l≠gw r xs:=by
  rcases@fS xs r with hm|⟨_,hm⟩
  ·intro x;exact TS (by rw[x];exact hm)
  ·rw[hm];exact Xy
 have Om:=(hr.other (c:=l) (j:=12) (v:=ptr (gw r xs)) Xy.symm).other (c:=l) (j:=13) (v:=ptr r) Xy.symm
 have QW:pC LT ((w.setCell ⟨l,12,none⟩ (ptr (gw r xs))).setCell ⟨l,13,none⟩ (ptr r)) r xs r:=hs.of (fun c hc=>by
  have Ng:c≠l:=λx=>TS (by rw[<-x];exact hc)
  rw[aG _ _ _ _ _ Ng,aG _ _ _ _ _ Ng])
 have Nq:=((hl.set3 (ptr (gw r xs))).set4 (ptr r)).other (c:=gw r xs) (j:=13) (v:=ptr l) Q5;have QD:=Nq.other (c:=r) (j:=12) (v:=ptr l) Xy;generalize (w.setCell ⟨l,12,none⟩ (ptr (gw r xs))).setCell ⟨l,13,none⟩ (ptr r)=w2 at*;refine⟨?_,js.2 ⟨?_,QD,trivial⟩⟩
 ·rw[oY,ww];by_cases hx:xs=[]
  ·subst hx;exact(Om.set4 (ptr l)).set3 (ptr l)
  ·have Ng:r≠gw r xs:=by
    intro x;rcases@fS xs r with hm|⟨hm,_⟩
    ·rw[<-x]at hm;exact Oi.1 hm
    ·exact hx hm
   have:=(Om.other (c:=gw r xs) (j:=13) (v:=ptr l) Ng).set3 (ptr l)
   have e2:hd xs r=hd xs (hd [(l,e)] r):=by
    cases xs with
    |nil=>exact absurd rfl hx
    |cons y t=>rfl
   rw[e2]at this;exact this
 ·by_cases hx:xs=[]
  ·subst hx;trivial
  ·exact(QW.setF hx Oi.2).of (λc hc=>aG _ _ _ _ _ (λx=>Oi.1 (by rw[<-x];exact hc)))
end
def FM(kv:List (ByteArray × Nat)):List (Value × Value):=kv.map λp=>(.string p.1,ptr p.2)
def nH(w:World)(M:Nat)(kv:List (ByteArray × Nat)):Prop:=∃es clock,w.heap[M]?=some (.map es clock)/\(es.toList.map λe=>(e.key,e.val)).Perm (FM kv)/\∀p∈kv,p.1.size<=maxLen
def kU(kv:List (ByteArray × Nat))(k:ByteArray):Option Nat:=(kv.find? λp=>p.1.data.toList==k.data.toList).map Prod.snd
def uo:Option Nat->Value
 |none=>.pointer none
 |some b=>ptr b
theorem nH.of{w w':World}{M:Nat}{kv:List (ByteArray × Nat)}(h:nH w M kv)(hb:w'.heap[M]?=w.heap[M]?):nH w' M kv:=by obtain⟨es,clock,h1,h2⟩:=h;exact⟨es,clock,hb.trans h1,h2⟩
def lJ(xs:List Lk):List (ByteArray × Nat):=xs.map λp=>(p.2.key,p.1)
def dk:List Lk->Int
 | []=>0
 |(_,e)::t=>e.size+dk t
theorem jC:∀(p q:List Lk),dk (p++q)=dk p+dk q
 | [],q=>by simp[dk]
 |(b,e)::t,q=>by rw[mr,dk,dk,jC t q];omega
theorem xj:∀(xs:List Lk),(∀p∈xs,0<=p.2.size/\p.2.size<=1073741824)->0<=dk xs/\dk xs<=xs.length*1073741824
 | [],_=>by simp[dk]
 |(b,e)::t,h=>by
  have ih:=xj t (λp hp=>h p (by simp[hp]));have:=h (b,e) (by simp);simp only at this
  rw[dk,cg];omega
def aL(fp:List Nat)(w w':World):Prop:=w'.os=w.os/\w'.tape=w.tape/\w'.output=w.output/\w.heap.size<=w'.heap.size/\∀b,b<w.heap.size->b ∉ fp->w'.heap[b]?=w.heap[b]?
theorem aL.refl(fp:List Nat)(w:World):aL fp w w:=⟨rfl,rfl,rfl,aw _,λ_ _ _=>rfl⟩
theorem aL.drewN{fp:List Nat}{w w':World}(h:aL fp w w')(n:Nat):aL fp w (w'.drewN n):=h
theorem aL.drew{fp:List Nat}{w w':World}(h:aL fp w w'):aL fp w w'.drew:=h
theorem aL.setCell{fp:List Nat}{w w':World}(h:aL fp w w')(c j:Nat)(v:Value)(hc:c∈fp):aL fp w (w'.setCell ⟨c,j,none⟩ v):=⟨h.1,h.2.1,h.2.2.1,bj h.2.2.2.1 (by simp),λb hb hn=>(aG _ _ _ _ _ (λe=>hn (by rw[e];exact hc))).trans (h.2.2.2.2 b hb hn)⟩
theorem CM{s m p:List UInt8}{mi:Int}(h:wQ s=⟨m,p,mi,0⟩):s.length<=2048/\∃r1 r2,Lib.cut s [32]=(m,r1,true)/\Lib.cut r1 [32]=(p,r2,true)/\aZ fv p=true/\be m=true/\p.isEmpty=false/\jt false r2=(mi,0)/\p.length<=1024:=by
 unfold wQ at h
 cases h0:decide (2048<s.length)
 ·rw[h0,cond_false]at h;simp only[decide_eq_false_iff_not,Nat.not_lt]at h0;refine⟨h0,?_⟩;simp only at h
  generalize Lib.cut s [32]=c1 at*;obtain⟨a1,a2,a3⟩:=c1;simp only at h
  generalize hc2':Lib.cut a2 [32]=c2 at*;obtain⟨b1,b2,b3⟩:=c2;simp only at h
  generalize hb:(!a3||!b3||!aZ fv b1||!be a1||b1.isEmpty)=bad at h
  cases bad
  ·simp at hb
   obtain⟨⟨⟨⟨rfl,rfl⟩,hh⟩,ht⟩,he⟩:=hb;generalize hv:jt false b2=v at h;obtain⟨v1,v2⟩:=v;simp only at h
   cases h1:(v2==0)
   ·rw[h1,gN,cond_false,h1,cond_false]at h;injection h with _ _ _ h
    rw[h]at h1;cases h1
   ·rw[h1,eJ]at h;have Od:v2=0:=by simpa using h1
    subst Od
    cases h2:decide (1024<b1.length)
    ·rw[h2,cond_false]at h;simp only[beq_self_eq_true,cond_true]at h;injection h with h3 h4 h5 _
     subst h3 h4 h5;simp only[decide_eq_false_iff_not,Nat.not_lt]at h2;exact⟨a2,b2,rfl,hc2',hh,ht,by simpa using he,hv,h2⟩
    ·rw[h2,cond_true]at h;injection h with _ _ _ h
     cases h
  ·rw[pu]at h;injection h with _ _ _ h
   cases h
 ·rw[h0,cond_true]at h;injection h with _ _ _ h
  cases h
theorem yN(w:World)(o0 o1 o2 o3 o4:Obj):∃W,((((w.alloc o0).alloc o1).alloc o2).alloc o3).alloc o4=W/\Below w.heap.size w W/\W.heap.size=w.heap.size+5/\W.heap[w.heap.size]?=some o0/\W.heap[w.heap.size+1]?=some o1/\W.heap[w.heap.size+1+1]?=some o2/\W.heap[w.heap.size+1+1+1]?=some o3/\W.heap[w.heap.size+1+1+1+1]?=some o4:=by
 refine⟨_,rfl,((((((aO _ w).alloc (aw _) _).alloc (by simp) _).alloc (by simp;omega) _).alloc (by simp;omega) _).alloc (by simp;omega) _),by simp,?_,?_,?_,?_,?_⟩
 all_goals
  show(((((w.heap.push o0).push o1).push o2).push o3).push o4)[_]?=_
  simp only[Array.getElem?_push,Array.size_push]
  repeat rw[if_neg (by omega)]
  exact if_pos trivial
def aq(b:Nat)(v:Value)(T:TypeId)(w:World):Prop:=w.heap[b]?=some (.cells #[v] T (0,0))
theorem aq.below{b:Nat}{v:Value}{T:TypeId}{w w':World}(h:aq b v T w)(hb:Below w.heap.size w w'):aq b v T w':=(hb.block b (ab h 0).2.2).trans h
theorem aq.grown{b g:Nat}{v:Value}{T:TypeId}{w w':World}(h:aq b v T w)(hb:w.grownBy w' (some g))(Ng:b≠g):aq b v T w':=(hb.block b (ab h 0).2.2 (by intro x;cases x;exact Ng rfl)).trans h
theorem aq.set{b:Nat}{v u:Value}{T:TypeId}{w:World}(h:aq b v T w):aq b u T (w.setCell ⟨b,0,none⟩ u):=ar h
theorem aq.other{b g j:Nat}{v u:Value}{T:TypeId}{w:World}(h:aq b v T w)(Ng:b≠g):aq b v T (w.setCell ⟨g,j,none⟩ u):=(fE _ _ _ _ Ng).trans h
theorem aq.cell{b:Nat}{v:Value}{T:TypeId}{w:World}(h:aq b v T w):w.cell? ⟨b,0,none⟩=some v/\w.frozen? ⟨b,0,none⟩=false:=⟨(ab h 0).1,(ab h 0).2.1⟩
theorem Fw(b0 b1 b2 b3:Nat)(u:FrameMode)(w:World)(h:w.cell? ⟨b0,0,none⟩=some (.int .i64 0)):CallsD Tryz.prog 166 #[.pointer (some ⟨b0,0,none⟩),.pointer (some ⟨b1,0,none⟩),.pointer (some ⟨b2,0,none⟩),.pointer (some ⟨b3,0,none⟩)] u w λe u' w'=>u'=u/\(e=.returned (.tuple #[])/\w'=w):=by
 go_enter_d Tryz.func166,Tryz.ntmps166
 go_wp2;go_end0
 exact⟨rfl,rfl⟩
theorem Jd(s:ByteArray)(m p:List UInt8)(mi:Int)(w:World)(hM:cq w)(h:wQ s.data.toList=⟨m,p,mi,0⟩):Calls Tryz.prog 114 #[.string s] w λe w'=>e=.returned (.tuple #[.string ⟨m.toArray⟩,.string ⟨p.toArray⟩,.int .i64 mi,.int .i64 0])/\Below w.heap.size w w':=by
 obtain⟨hl,r1,r2,Rz,PF,hh,PK,Tb,hv,Oe⟩:=CM h;rw[<-aY]at hl;have VT:=wG;clear h;have t0:decide ((s.size:Int)>2048)=false:=by simp;omega
 have Qm:=h_ s.data.toList [32];rw[Rz,<-aY]at Qm;simp only at Qm
 have Vh:=h_ r1 [32];rw[PF]at Vh;simp only at Vh
 obtain⟨W0,Nb,Nm,hz,q0,q1,q2,q3,q4⟩:=yN w BF BF Ag (.cells #[.int .i64 0] 27) (.cells #[.string s,.bool false] 184);have k1:=nB _ s false W0 q4 (hM.below Nm) (by omega);rw[Rz]at k1;simp only[di,mU]at k1;obtain⟨K1,Q0,Q1,Q2,Q3,Nl⟩:=eN k1 q0 q1 q2 q3 Nb;clear k1 q0 q1 q2 q3 q4 Nb;go_enter_defers Tryz.func114,Tryz.ntmps114
 go_wp2_with fail
 rw[Nl.out];refine K1.out.mono ?_;rintro e w1 ⟨rfl,O0,OO⟩;have Ni:Below w.heap.size w w1:=Nm.trans (fj OO (by omega) (by omega));have q0:aq w.heap.size (.string ⟨#[]⟩) 9 w1:=aq.grown Q0.out OO (by omega);have q1:aq (w.heap.size+1) (.string ⟨#[]⟩) 9 w1:=aq.grown Q1.out OO (by omega);have q2:aq (w.heap.size+1+1) (.int .i64 0) 3 w1:=aq.grown Q2.out OO (by omega);have q3:aq (w.heap.size+1+1+1) (.int .i64 0) 27 w1:=aq.grown Q3.out OO (by omega);have k2:=nB _ ⟨r1.toArray⟩ false w1 O0 (hM.below Ni) (by rw[aR];omega);rw[bq,PF]at k2;simp only[di,mU]at k2;have K2:=ah k2;clear k2 O0 K1 Nl;obtain⟨P0,P1,P2,P3⟩:=bK q0 q1 q2 q3;clear q0 q1 q2 q3 Q0 Q1 Q2 Q3;go_wp2_with fail
 refine K2.out.mono ?_;rintro e w2 ⟨rfl,Om,N8⟩;have N6:w.heap.size+5<=w2.heap.size:=by have:=OO.size;have:=N8.size;omega
 have Nk:Below w.heap.size w w2:=Ni.trans (fj N8 (by omega) (by have:=OO.size;omega));have q0:aq w.heap.size (.string ⟨#[]⟩) 9 w2:=aq.grown P0.out N8 (by omega);have q1:aq (w.heap.size+1) (.string ⟨#[]⟩) 9 w2:=aq.grown P1.out N8 (by omega);have q2:aq (w.heap.size+1+1) (.int .i64 0) 3 w2:=aq.grown P2.out N8 (by omega);have q3:aq (w.heap.size+1+1+1) (.int .i64 0) 27 w2:=aq.grown P3.out N8 (by omega);clear OO N8 P0 P1 P2 P3 K2 Ni Nm hz;obtain⟨W3,NW⟩:=aH ((w2.setCell ⟨w.heap.size,0,none⟩ (.string ⟨m.toArray⟩)).setCell ⟨w.heap.size+1,0,none⟩ (.string ⟨p.toArray⟩));have p0:aq w.heap.size (.string ⟨m.toArray⟩) 9 W3:=by rw[<-NW];exact(q0.set).other (by omega)
 have p1:aq (w.heap.size+1) (.string ⟨p.toArray⟩) 9 W3:=by rw[<-NW];exact(q1.other (by omega)).set
 have p2:aq (w.heap.size+1+1) (.int .i64 0) 3 W3:=by rw[<-NW];exact(q2.other (by omega)).other (by omega)
 have p3:aq (w.heap.size+1+1+1) (.int .i64 0) 27 W3:=by rw[<-NW];exact(q3.other (by omega)).other (by omega)
 have p4:gT (w.heap.size+1+1+1+1) ⟨r2.toArray⟩ false W3:=by rw[<-NW];exact(aG _ _ _ _ _ (by omega)).trans ((aG _ _ _ _ _ (by omega)).trans Om)
 have Nu:Below w.heap.size w W3:=by rw[<-NW];exact(Nk.setCell (aw _) _).setCell (by show w.heap.size<=w.heap.size+1;omega) _
 have c0:=q0.cell;have c1:=((q1.other (g:=w.heap.size) (j:=0) (u:=.string ⟨m.toArray⟩) (by omega))).cell;obtain⟨c0a,c0b⟩:=c0;obtain⟨c1a,c1b⟩:=c1;have e1:((w2.setCell ⟨w.heap.size,0,none⟩ (.string ⟨m.toArray⟩)).setCell ⟨w.heap.size+1,0,none⟩ (.string ⟨p.toArray⟩)).cell? ⟨w.heap.size+1,0,none⟩=some (.string ⟨p.toArray⟩):=by rw[NW];exact p1.cell.1
 have k3:=tB _ ⟨r2.toArray⟩ false ⟨#[33,126]⟩ ⟨p.toArray⟩ 1 W3 p4 rfl (by omega) (by rw[aR];omega);rw[show(⟨#[33,126]⟩:ByteArray).data.toList=fv from rfl,bq,hh]at k3;simp only[di,mU]at k3;obtain⟨K3,Qk⟩:=az k3 NW;obtain⟨P0,P1,P2,P3⟩:=bK p0 p1 p2 p3;clear k3 NW p0 p1 p2 p3 p4 q0 q1 q2 q3 Om Nk;go_wp2_with fail
 rw[Qk.out];refine K3.out.mono ?_;rintro e w4 ⟨rfl,UQ,Sy⟩;have hz4:w.heap.size+5<=w4.heap.size:=by have h:=Sy.size;rw[<-Qk.out]at h;simp at h;omega
 have hzw3:w.heap.size<=W3.heap.size:=by rw[<-Qk.out];simp;omega
 have Ny:Below w.heap.size w w4:=Nu.trans (fj Sy (by omega) hzw3);have q0:aq w.heap.size (.string ⟨m.toArray⟩) 9 w4:=aq.grown P0.out Sy (by omega);have q1:aq (w.heap.size+1) (.string ⟨p.toArray⟩) 9 w4:=aq.grown P1.out Sy (by omega);have q2:aq (w.heap.size+1+1) (.int .i64 0) 3 w4:=aq.grown P2.out Sy (by omega);have q3:aq (w.heap.size+1+1+1) (.int .i64 0) 27 w4:=aq.grown P3.out Sy (by omega);clear Qk K3 P0 P1 P2 P3 Sy e1 c0a c0b c1a c1b hzw3 Nu N6;have k4:=lT ⟨m.toArray⟩ w4 (by rw[aR];omega);rw[bq,PK]at k4;have K4:=ah k4;have tp:(p==[])=false:=by cases p with|nil=>cases Tb|cons _ _=>rfl
 have c0:=q0.cell.1;have c1:=q1.cell.1;have d1:=(ab UQ 1).1;have d1f:=(ab UQ 1).2.1;simp only[cT,cv,cS]at d1;obtain⟨W5,OH⟩:=aH (w4.setCell ⟨w.heap.size+1+1+1+1,1,none⟩ (.bool false));have r5:gT (w.heap.size+1+1+1+1) ⟨r2.toArray⟩ false W5:=by rw[<-OH];exact UQ.bad
 have p0:aq w.heap.size (.string ⟨m.toArray⟩) 9 W5:=by rw[<-OH];exact q0.other (by omega)
 have p1:aq (w.heap.size+1) (.string ⟨p.toArray⟩) 9 W5:=by rw[<-OH];exact q1.other (by omega)
 have p2:aq (w.heap.size+1+1) (.int .i64 0) 3 W5:=by rw[<-OH];exact q2.other (by omega)
 have p3:aq (w.heap.size+1+1+1) (.int .i64 0) 27 W5:=by rw[<-OH];exact q3.other (by omega)
 have Oh:Below w.heap.size w W5:=by rw[<-OH];exact Ny.setCell (by show w.heap.size<=w.heap.size+1+1+1+1;omega) _
 have Zf:w.heap.size+5<=W5.heap.size:=by rw[<-OH];simpa using hz4
 have k5:=qC _ ⟨r2.toArray⟩ false ⟨r2.toArray⟩ W5 r5;rw[bq,hv]at k5;have d0:(w4.setCell ⟨w.heap.size+1+1+1+1,1,none⟩ (.bool false)).cell? ⟨w.heap.size+1+1+1+1,0,none⟩=some (.string ⟨r2.toArray⟩):=by rw[OH];exact(ab r5 0).1
 obtain⟨K5,XD⟩:=az k5 OH;obtain⟨P0,P1,P2,P3⟩:=bK p0 p1 p2 p3;clear k4 k5 OH p0 p1 p2 p3 q0 q1 q2 q3 r5 UQ;go_wp2_with fail
 refine K4.out.mono ?_;rintro e w5 ⟨rfl,rfl⟩;go_wp2_with fail
 rw[XD.out];refine K5.out.mono ?_;rintro e w6 ⟨rfl,⟨bx,hr6⟩,Tw⟩;have Ow:Below w.heap.size w w6:=Oh.trans (fj Tw (by omega) (by omega));have q0:aq w.heap.size (.string ⟨m.toArray⟩) 9 w6:=aq.grown P0.out Tw (by omega);have q1:aq (w.heap.size+1) (.string ⟨p.toArray⟩) 9 w6:=aq.grown P1.out Tw (by omega);have q2:aq (w.heap.size+1+1) (.int .i64 0) 3 w6:=aq.grown P2.out Tw (by omega);have q3:aq (w.heap.size+1+1+1) (.int .i64 0) 27 w6:=aq.grown P3.out Tw (by omega);clear K4 K5 XD Tw hr6 c0 c1 d0 d1 d1f P0 P1 P2 P3;obtain⟨W7,Pt⟩:=aH ((w6.setCell ⟨w.heap.size+1+1,0,none⟩ (.int .i64 mi)).setCell ⟨w.heap.size+1+1+1,0,none⟩ (.int .i64 0));have p0:aq w.heap.size (.string ⟨m.toArray⟩) 9 W7:=by rw[<-Pt];exact(q0.other (by omega)).other (by omega)
 have p1:aq (w.heap.size+1) (.string ⟨p.toArray⟩) 9 W7:=by rw[<-Pt];exact(q1.other (by omega)).other (by omega)
 have p2:aq (w.heap.size+1+1) (.int .i64 mi) 3 W7:=by rw[<-Pt];exact(q2.set).other (by omega)
 have p3:aq (w.heap.size+1+1+1) (.int .i64 0) 27 W7:=by rw[<-Pt];exact(q3.other (by omega)).set
 have OE:Below w.heap.size w W7:=by rw[<-Pt];exact(Ow.setCell (by show w.heap.size<=w.heap.size+1+1;omega) _).setCell (by show w.heap.size<=w.heap.size+1+1+1;omega) _
 obtain⟨c2a,c2b⟩:=q2.cell;obtain⟨c3a,c3b⟩:=(q3.other (g:=w.heap.size+1+1) (j:=0) (u:=.int .i64 mi) (by omega)).cell;have ST:(⟨p.toArray⟩:ByteArray).size=p.length:=aR p;have TH:=ah Pt;clear Pt q0 q1 q2 q3;go_upto_region 9 with(fail)
 rw[TH.out];obtain⟨a0,a0f⟩:=p0.cell;obtain⟨a1,a1f⟩:=p1.cell;obtain⟨a2,a2f⟩:=p2.cell;obtain⟨a3,a3f⟩:=p3.cell;obtain⟨P0,P1,P2,P3⟩:=bK p0 p1 p2 p3;have t2:decide ((p.length:Int)>1024)=false:=by simp;omega
 clear c2a c2b c3a c3b TH p0 p1 p2 p3;go_wp2_with fail
 go_region
 go_wp2;obtain⟨D,hD⟩:=aH (((((W7.setCell ⟨w.heap.size,0,none⟩ (.string ⟨m.toArray⟩)).setCell ⟨w.heap.size+1,0,none⟩ (.string ⟨p.toArray⟩)).setCell ⟨w.heap.size+1+1,0,none⟩ (.int .i64 mi)).setCell ⟨w.heap.size+1+1+1,0,none⟩ (.int .i64 0)).drew);rw[hD];have b0:D.cell? ⟨w.heap.size,0,none⟩=some (.string ⟨m.toArray⟩):=by rw[<-hD];exact(((P0.out.set.other (by omega)).other (by omega)).other (by omega)).cell.1
 have b1:D.cell? ⟨w.heap.size+1,0,none⟩=some (.string ⟨p.toArray⟩):=by rw[<-hD];exact((((P1.out.other (by omega)).set).other (by omega)).other (by omega)).cell.1
 have b2:D.cell? ⟨w.heap.size+1+1,0,none⟩=some (.int .i64 mi):=by rw[<-hD];exact((((P2.out.other (by omega)).other (by omega)).set).other (by omega)).cell.1
 have b3:D.cell? ⟨w.heap.size+1+1+1,0,none⟩=some (.int .i64 0):=by rw[<-hD];exact((((P3.out.other (by omega)).other (by omega)).other (by omega)).set).cell.1
 have Vm:Below w.heap.size w D:=by rw[<-hD];exact((((OE.setCell (aw _) _).setCell (by show w.heap.size<=w.heap.size+1;omega) _).setCell (by show w.heap.size<=w.heap.size+1+1;omega) _).setCell (by show w.heap.size<=w.heap.size+1+1+1;omega) _).drew
 refine leaves_cons (f:=166) (args:=#[.pointer (some ⟨w.heap.size+1+1+1,0,none⟩),.pointer (some ⟨w.heap.size,0,none⟩),.pointer (some ⟨w.heap.size+1,0,none⟩),.pointer (some ⟨w.heap.size+1+1,0,none⟩)]) (by simp) (by simp[go_sem]) ?_;refine(Fw _ _ _ _ .returning _ b3).mono ?_;rintro e u' w'' ⟨rfl,rfl,rfl⟩;clear a0 a1 a2 a3 a0f a1f a2f a3f hD;refine⟨.tuple #[.string ⟨m.toArray⟩,.string ⟨p.toArray⟩,.int .i64 mi,.int .i64 0],?_,rfl,Vm⟩;simp[results,Tryz.results114,go_sem,b0,b1,b2,b3]
end Go.Proofs.YtdbjnlkbhhebbaaGreatDoor
