/- SurList, SurMine, SurWord, Delta, SurDo, SurOf, Date1, Date2, Date3. -/
import Derived.Test.YtdbjnlkbhhebbaaGreatDoorK01
import Derived.Test.YtdbjnlkbhhebbaaGreatDoorK02
import Derived.Test.YtdbjnlkbhhebbaaGreatDoorK06
import Derived.Test.YtdbjnlkbhhebbaaGreatDoorK08
import Derived.Test.YtdbjnlkbhhebbaaGreatDoorK09
import Derived.Laws.EntriesVeiled
import Derived.Lib.FieldsP
import Derived.Lib.SlicesS
import Derived.Deep.RegionHeld3
set_option maxRecDepth 100000
set_option maxHeartbeats 16000000
set_option linter.all false
namespace Go.Proofs.YtdbjnlkbhhebbaaGreatDoor
open Go.RowKit
variable {vs:List (List UInt8)}{B C:Nat}{A:Option Addr}{w w':World}
def xZ(B:Nat)(out:Value)(acc:List da)(A:Option Addr)(vs:List (List UInt8))(w:World):Prop:=eF B out acc w/\Rd A vs.length 1 (aF vs) w/\xM out A vs.length
theorem xZ.below{out:Value}{acc:List da}{w1:World}(h:xZ B out acc A vs w)(hb:Below w.heap.size w w1):xZ B out acc A vs w1:=⟨h.1.below hb,h.2.1.below hb,h.2.2⟩
theorem xZ.far{out v':Value}{acc RX:List da}{w1:World}(h:xZ B out acc A vs w)(ho:eF B v' RX w1)(hf:pD w w1 out v'):xZ B v' RX A vs w1:=⟨ho,h.2.1.far hf h.2.2⟩
theorem xZ.beside{out:Value}{acc:List da}{A2:Option Addr}{ps:List (List UInt8)}{w1:World}{c:Nat}(h:xZ B out acc A vs w)(hb:Below w.heap.size w w1)(hp:aQ w.heap.size (.slice A2 ps.length c) ps w1):xZ B out acc A2 ps w1:=⟨h.1.below hb,hp.rd.2,xM.new h.1 (mf hp)⟩
theorem Dk(p:List UInt8):(jd p).length<=1:=by
 unfold jd
 cases((ax 59 p).2 !=0)
 ·simp only[cond_false];split
  ·exact yQ _ _
  ·cases be _<;>simp[yQ]
  ·simp
 ·simp
theorem xJ:∀ps:List (List UInt8),(ps.flatMap jd).length<=ps.length
 | []=>by simp
 |p::r=>by
  have h1:=Dk p;have h2:=xJ r;rw[jk,bP,cg];omega
def s7(v:List UInt8):List da:=bif(ax 44 v).2==0 then(ax 44 v).1.flatMap jd else [lM]
theorem Fx(v:List UInt8):(s7 v).length<=64:=by
 unfold s7;have h:=iF 44 v;have h2:=xJ (ax 44 v).1
 cases((ax 44 v).2==0)
 ·simp
 ·rw[cond_true];omega
theorem yT(vs:List (List UInt8)):cY vs=vs.flatMap s7:=rfl
theorem s9:∀vs:List (List UInt8),(cY vs).length<=64*vs.length
 | []=>by simp[cY]
 |v::r=>by
  have h1:=Fx v;have h2:=s9 r;rw[yT]at*;rw[jk,bP,cg];omega
theorem vd{α β:Type}(f:α->List β)(l:List α)(k:Nat)(h:k<l.length):(l.take (k+1)).flatMap f=(l.take k).flatMap f++f l[k]:=by rw[gL h,List.flatMap_append];simp
theorem yX(A:Option Addr)(n c:Nat)(vs:List (List UInt8))(w:World)(hM:cq w)(hr:Rd A n 1 (aF vs) w)(hn:n<=10000)(hl:∀v∈vs,v.length<=1000000):Calls Tryz.prog 25 #[.slice A n c] w (du w (cY vs)):=by
 obtain rfl:=hr.str;have hS:xZ w.heap.size (.slice none 0 0) [] A vs w:=⟨eF.nil _ _,hr,λ_ g o e x=>by cases x⟩;have hB:=aO w.heap.size w;have Tq:cY (vs.take 0)=[]:=rfl;have No:=λk(h:k<vs.length)=>vd s7 vs k h
 have hlen:∀k,(cY (vs.take k)).length<=1000000:=λk=>by
  have:=s9 (vs.take k);have h2:(vs.take k).length<=vs.length:=by rw[dm];omega
  omega
 simp only[<-yT]at No
 have Nn:cY (vs.take vs.length)=cY vs:=by rw[eM]
 obtain⟨HS,TV,OR,Ox,HH,TX⟩:=eN hS Tq No hlen Nn hl;clear hS Tq No hlen Nn hl hr;go_enter Tryz.func25,Tryz.ntmps25
 go_wp2_with fail
 go_loopw [11,2] (λi out wr=>∃k:Nat,k<=vs.length/\i=.int .i64 k/\Hid (xZ w.heap.size out (cY (vs.take k)) A vs wr)/\Below w.heap.size w wr) (λi _ _=>vs.length-(intOf i).toNat)
 case atStart=>exact⟨0,a_ _,rfl,by rw[TV.out];exact HS,hB⟩
 case round=>
  clear HS hB TV;obtain⟨k,hk,rfl,HO,M_⟩:=hrel;obtain⟨oa,oc,rfl⟩:=HO.out.1.shape;have N5:=Ox.out k;by_cases Nc:k<vs.length
  ·obtain⟨b,o,rfl,hl,c1⟩:=HO.out.2.1.str_at (k:=k) Nc;have Nd:=OR.out k Nc;have hv:=TX.out vs[k] (bQ _);generalize vs[k]=v at*;have k2:=λw=>iJ ⟨v.toArray⟩ 44 w (by rw[aY];exact hv)
   simp only at k2
   have PV:=iF 44 v;have Rw:=ci 44 v;have VR:=@Ir v;have htv:s7 v=bif(ax 44 v).2==0 then(ax 44 v).1.flatMap jd else [lM]:=rfl;generalize ax 44 v=r at*;obtain⟨ps,er⟩:=r;simp only at PV Rw VR htv
   rw[htv]at Nd;generalize cY (vs.take k)=acc at*
   cases hz:(er==0)
   ·rw[hz,cond_false]at Nd;have n0:(er !=0)=true:=by simp[bne,hz]
    obtain⟨K2,OJ⟩:=az k2 Nd;clear k2 Nd Rw PV VR htv OR TX Ox hv;go_wp2_with fail
    refine(K2.out _).mono ?_;rintro e w3 ⟨a3,c3,rfl,NN,Na⟩;simp only at NN ⊢
    have Nu:=M_.trans (Na.mono M_.size);have Ob:=ah (HO.out.below Na);clear NN Na M_ HO c1 K2;go_wp2_with fail
    refine(vQ _).mono ?_;rintro e w4 ⟨a4,c4,rfl,Tr,Nf⟩;have Ny:=Nu.trans (Nf.mono Nu.size);have Pj:=ah (Ob.out.below Nf);have HR4:=ah Tr.rd.2;clear Ob Tr Nf Nu;have TU:acc.length+1<=1000000000:=by omega
    go_wp2_with (at_builtin;refine AJ w.heap.size Pj.out.1 Ny.size HR4.out TU rfl _ _ rfl rfl rfl ?_)
    intro v' w7 hO7 NG hfar7;have OE:=Ny.trans NG;have O6:Hid (xZ w.heap.size v' (cY (vs.take (k+1))) (some ⟨b,o,none⟩) vs w7):=by rw[OJ.out];exact am (Pj.out.far hO7 hfar7)
    clear hO7 NG hfar7 Pj OJ;go_wp2;go_roundw
    case rel=>exact⟨k+1,by omega,by go_num,O6,OE⟩
    case measure=>simp[intOf];omega
   ·rw[hz,cond_true]at Nd;have n0:(er !=0)=false:=by simp[bne,hz]
    have PY:er=0:=by simpa using hz
    have Pb:∀p∈ps,p.length<=1000000:=λp hp=>by have:=cG hp;omega
    have hsy:∀p∈ps,AL p=jd p:=λp hp=>VR PY hp
    have QT:∀m(h:m<ps.length),acc++(ps.take (m+1)).flatMap jd=(acc++(ps.take m).flatMap jd)++jd ps[m]:=λm h=>by rw[vd jd ps m h,List.append_assoc]
    have O4:∀m,(acc++(ps.take m).flatMap jd).length<=2000000:=by
     intro m;have h1:=xJ (ps.take m);have h2:(ps.take m).length<=ps.length:=by rw[dm];omega
     rw[bP];omega
    have Nn:cY (vs.take (k+1))=acc++(ps.take ps.length).flatMap jd:=by rw[eM];exact Nd
    have h0:acc++(ps.take 0).flatMap jd=acc:=by simp
    obtain⟨K2,Wr,HSY,Wn⟩:=bK k2 Pb hsy QT;obtain⟨ZW,PW,H0⟩:=bu O4 Nn h0;clear k2 Nd hv Rw Pb hsy QT O4 Nn h0 VR htv OR TX Ox PY;go_wp2_with fail
    refine(K2.out _).mono ?_;rintro e w3 ⟨a3,c3,rfl,NN,Na⟩;simp only at NN ⊢
    have Nu:=M_.trans (Na.mono M_.size);have Ob:=ah (HO.out.below Na);have Sx:=ah (HO.out.beside Na NN);have hM3:=hM.below Nu;clear NN Na M_ HO c1 K2;go_wp2_with fail
    obtain⟨wo,rfl⟩:∃wo:World,wo=wr:=⟨_,rfl⟩;go_loopw [27,2] (λj out wi=>∃m:Nat,m<=ps.length/\j=.int .i64 m/\Hid (xZ w.heap.size out (acc++(ps.take m).flatMap jd) (some ⟨b,o,none⟩) vs wi)/\Hid (xZ w.heap.size out (acc++(ps.take m).flatMap jd) a3 ps wi)/\Below w.heap.size w wi) (λj _ _=>ps.length-(intOf j).toNat)
    case atStart=>exact⟨0,a_ _,rfl,by rw[H0.out];exact Ob,by rw[H0.out];exact Sx,Nu⟩
    case round=>
     clear Ob Sx Nu H0 hM3;obtain⟨m,hm,rfl,HO,HP,Ql⟩:=hrel;obtain⟨pa,pc,rfl⟩:=HO.out.1.shape;have TU:=ZW.out m;by_cases Qm:m<ps.length
     ·obtain⟨b2,o2,rfl,Nq,c2⟩:=HP.out.2.1.str_at (k:=m) Qm;have Ss:=Wr.out ps[m] (bQ _);have hsy:=HSY.out ps[m] (bQ _);have QT:=Wn.out m Qm;have Rg:=Dk ps[m];generalize ps[m]=p at*;have k4:=zP ⟨p.toArray⟩ wr (hM.below Ql) (by rw[aY];exact Ss);simp only at k4
      rw[hsy]at k4;generalize jd p=q at*;generalize acc++(ps.take m).flatMap jd=ac at*;have Sd:ac.length+q.length<=1000000000:=by omega
      obtain⟨U4,K4⟩:=az QT k4;clear QT k4 hsy Ss;go_wp2_with fail
      refine K4.out.mono ?_;rintro e w4 ⟨a4,c4,rfl,Tr,Nf⟩;have Ny:=Ql.trans (Nf.mono Ql.size);have Pj:=ah (HO.out.below Nf);have We:=ah (HP.out.below Nf);have HR4:=ah Tr.rd.2;clear HO HP Tr Nf c2 K4;go_wp2_with (at_builtin;refine AJ w.heap.size Pj.out.1 Ny.size HR4.out Sd rfl _ _ rfl rfl rfl ?_)
      intro v' w7 hO7 NG hfar7;have OE:=Ny.trans NG;have O6:Hid (xZ w.heap.size v' (acc++(ps.take (m+1)).flatMap jd) (some ⟨b,o,none⟩) vs w7):=by rw[U4.out];exact am (Pj.out.far hO7 hfar7)
      have Zi:Hid (xZ w.heap.size v' (acc++(ps.take (m+1)).flatMap jd) (some ⟨b2,o2,none⟩) ps w7):=by rw[U4.out];exact am (We.out.far hO7 hfar7)
      clear hO7 NG hfar7 Pj We U4;go_wp2;go_roundw
      case rel=>exact⟨m+1,by omega,by go_num,O6,Zi,OE⟩
      case measure=>simp[intOf];omega
     ·have Sm:m=ps.length:=by omega
      subst Sm;have HN:Hid (xZ w.heap.size (.slice pa (acc++(ps.take ps.length).flatMap jd).length pc) (cY (vs.take (k+1))) (some ⟨b,o,none⟩) vs wr):=by rw[PW.out];exact HO
      clear HO HP Wn ZW PW Wr HSY;go_wp2;go_roundw
      case rel=>exact⟨k+1,by omega,by go_num,HN,Ql⟩
      case measure=>simp[intOf];omega
  ·have NI:k=vs.length:=by omega
   subst NI;have Nn:=HH.out;clear OR TX Ox HH;generalize cY (vs.take vs.length)=q at*;subst Nn;go_wp2;go_ret;exact⟨oa,oc,rfl,HO.out.1,M_⟩
theorem zi(T:Nat)(dev:ByteArray)(d:da)(w:World)(hT:w.cell? ⟨T,0,none⟩=some (.string dev))(Qs:T<w.heap.size):Calls Tryz.prog 59 #[.agg #[.string ⟨d.name.toArray⟩,.string ⟨d.value.toArray⟩,.bool d.has,.string ⟨d.for_.toArray⟩],.pointer (some ⟨T,0,none⟩)] w λe w'=>e=.returned (.bool (pm dev.data.toList d))/\Below w.heap.size w w':=by
 obtain⟨dn,dv,dh,df⟩:=d;simp only
 have N5:=(aO w.heap.size w).alloc (aw _) (.cells #[.string ⟨dn.toArray⟩,.string ⟨dv.toArray⟩,.bool dh,.string ⟨df.toArray⟩] 87);have hT2:=(N5.cell (p:=⟨T,0,none⟩) Qs).trans hT;have Ng:T≠w.heap.size:=by omega
 cases he:dev.data.toList.isEmpty
 ·have e1:dev.toList.isEmpty=false:=by rw[dY];exact he
  have hq:pm dev.data.toList ⟨dn,dv,dh,df⟩=(df==dev.data.toList):=by unfold pm;rw[he];rfl
  rw[hq];have e2:(df==dev.toList)=(df==dev.data.toList):=by rw[dY]
  have E2:=ah e2;clear e2 hq he;go_enter Tryz.func59,Tryz.ntmps59
  go_wp2;go_ret;exact⟨by rw[<-E2.out];rfl,N5⟩
 ·have e1:dev.toList.isEmpty=true:=by rw[dY];exact he
  have hq:pm dev.data.toList ⟨dn,dv,dh,df⟩=false:=by unfold pm;rw[he];rfl
  rw[hq];clear hq he;go_enter Tryz.func59,Tryz.ntmps59
  go_wp2;go_ret;exact⟨rfl,N5⟩
theorem F8(T U V:Nat)(dev:ByteArray)(d x:da)(w:World)(hT:w.cell? ⟨T,0,none⟩=some (.string dev))(Qs:T<w.heap.size)(hU:w.cell? ⟨U,0,none⟩=some (.func (.func 59) #[] #[.pointer (some ⟨T,0,none⟩)]))(hUw:U<w.heap.size)(hV:w.cell? ⟨V,0,none⟩=some (.string ⟨d.name.toArray⟩))(hVw:V<w.heap.size):Calls Tryz.prog 61 #[.agg #[.string ⟨x.name.toArray⟩,.string ⟨x.value.toArray⟩,.bool x.has,.string ⟨x.for_.toArray⟩],.pointer (some ⟨U,0,none⟩),.pointer (some ⟨V,0,none⟩)] w λe w'=>e=.returned (.bool (pm dev.data.toList x&&x.name==d.name))/\Below w.heap.size w w':=by
 have k1:=λW h1 h2=>zi T dev x W h1 h2
 obtain⟨dn,_,_,_⟩:=d;obtain⟨xn,xv,xh,xf⟩:=x;simp only at hV k1 ⊢
 obtain⟨W1,Ne⟩:=bg w (.cells #[.string ⟨xn.toArray⟩,.string ⟨xv.toArray⟩,.bool xh,.string ⟨xf.toArray⟩] 87);have N5:=bm Ne;obtain⟨z0,z1,z2,z3,_,_,_,_,zlt⟩:=qg w (.string ⟨xn.toArray⟩) (.string ⟨xv.toArray⟩) (.bool xh) (.string ⟨xf.toArray⟩) 87;rw[Ne]at z0 z1 z2 z3 zlt;have hT1:=(N5.cell (p:=⟨T,0,none⟩) Qs).trans hT;have hal0:=(aO w.heap.size w).alloc (aw _) (.cells #[.string ⟨xn.toArray⟩,.string ⟨xv.toArray⟩,.bool xh,.string ⟨xf.toArray⟩] 87);have VI:=(hal0.cell (p:=⟨U,0,none⟩) hUw).trans hU;have hV1:=(N5.cell (p:=⟨V,0,none⟩) hVw).trans hV;have k2:=k1 W1 hT1 (bE Qs N5.size);have QY:=bE hVw N5.size;have NC:=ah Ne;clear k1 hT hU hV hT1 Ne
 cases ho:pm dev.data.toList ⟨xn,xv,xh,xf⟩
 all_goals (
  rw[ho]at k2;have K2:=ah k2;clear k2 ho;go_enter Tryz.func61,Tryz.ntmps61
  go_wp2_with fail
  rw[NC.out];refine K2.out.mono ?_;rintro e w2 ⟨rfl,M9⟩;have y0:=(M9.cell (p:=⟨w.heap.size,0,none⟩) zlt).trans z0;have yV:=(M9.cell (p:=⟨V,0,none⟩) QY).trans hV1;have Nk:=N5.trans (M9.mono N5.size);clear z0 z1 z2 z3 hV1 VI;go_wp2;go_ret)
 ·exact⟨rfl,Nk⟩
 ·exact⟨rfl,Nk⟩
theorem ug(p1 p2:Value)(q:da->Bool)(A:Option Addr)(n c:Nat)(xs:List da)(w:World)(hr:Rd A n 4 (cz xs) w)(hn:n<=1000000)(hc:∀d∈xs,∀W,Below w.heap.size w W->Calls Tryz.prog 61 #[.agg #[.string ⟨d.name.toArray⟩,.string ⟨d.value.toArray⟩,.bool d.has,.string ⟨d.for_.toArray⟩],p1,p2] W λe W'=>e=.returned (.bool (q d))/\Below W.heap.size W W'):Calls Tryz.prog 27 #[.slice A n c,.func (.func 61) #[] #[p1,p2]] w λe w'=>e=.returned (.int .i64 (cP q xs))/\Below w.heap.size w w':=by
 obtain rfl:=hr.dir;have No:=λk(h:k<xs.length)=>@jA xs q k h
 have RT:∀k(h:k<xs.length),(xs.take k).find? q=none->q xs[k]=true->cP q xs=k:=by
  intro k h ON hp;unfold cP
  rw[show xs.findIdx? q=some k from by
   rw[List.findIdx?_eq_some_iff_getElem];refine⟨h,hp,λj hj=>?_⟩;rw[mM]at ON;refine ON xs[j] ?_;rw[List.mem_take_iff_getElem];exact⟨j,by omega,rfl⟩]
 have PE:∀k,k=xs.length->(xs.take k).find? q=none->cP q xs=-1:=by
  intro k hk h;subst hk;rw[eM]at h;unfold cP
  rw[show xs.findIdx? q=none from by
   rw[List.findIdx?_eq_none_iff];rw[mM]at h;intro x hx';simpa using h x hx']
 generalize cP q xs=out at*;obtain⟨HR,HS,HH,HE,HC⟩:=gB hr No RT PE hc;clear hr No RT PE hc;go_enter Tryz.func27,Tryz.ntmps27
 go_wp2_with fail
 go_loopw [8] (λi wr=>∃k:Nat,k<=xs.length/\i=.int .i64 k/\Hid ((xs.take k).find? q=none)/\Below w.heap.size w wr) (λi _=>xs.length-(intOf i).toNat)
 case atStart=>exact⟨0,a_ _,rfl,am (by simp),aO _ _⟩
 case round=>
  obtain⟨k,hk,rfl,HN,Oy⟩:=hrel;by_cases Nc:k<xs.length
  ·obtain⟨b,o,rfl,hl,x0,x1,x2,x3⟩:=(HR.out.below Oy).dir_at (k:=k) Nc;have Nd:=HS.out k Nc HN.out;have Uf:=HH.out k Nc HN.out;have k1:=HC.out xs[k] (bQ _) wr Oy;generalize xs[k]=d at*;obtain⟨dn,dv,dh,df⟩:=d;simp only at x0 x1 x2 x3 k1
   cases hq:q ⟨dn,dv,dh,df⟩
   ·rw[hq]at k1;have RJ:=ah (Nd hq);have K1:=ah k1;clear Nd Uf k1 hq HS HH HE HN HC;go_wp2_with fail
    refine K1.out.mono ?_;rintro e w1 ⟨rfl,M8⟩;have Ni:=Oy.trans (M8.mono Oy.size);go_wp2;go_roundw
    case rel=>exact⟨k+1,by omega,by go_num,RJ,Ni⟩
    case measure=>simp[intOf];omega
   ·rw[hq]at k1;have ho:=Uf hq;subst ho;have K1:=ah k1;clear Nd Uf k1 hq HS HH HE HN HC;go_wp2_with fail
    refine K1.out.mono ?_;rintro e w1 ⟨rfl,M8⟩;have Ni:=Oy.trans (M8.mono Oy.size);go_wp2;go_ret;exact⟨rfl,Ni⟩
  ·have ho:=HE.out k (by omega) HN.out;subst ho;clear HS HH HE HN HC;go_wp2;go_ret;exact⟨rfl,Oy⟩
theorem pT(p1 p2:Value)(q:da->Bool)(A:Option Addr)(n c:Nat)(xs:List da)(w:World)(hr:Rd A n 4 (cz xs) w)(hn:n<=1000000)(hc:∀d∈xs,∀W,Below w.heap.size w W->Calls Tryz.prog 61 #[.agg #[.string ⟨d.name.toArray⟩,.string ⟨d.value.toArray⟩,.bool d.has,.string ⟨d.for_.toArray⟩],p1,p2] W λe W'=>e=.returned (.bool (q d))/\Below W.heap.size W W'):Calls Tryz.prog 60 #[.slice A n c,.func (.func 61) #[] #[p1,p2]] w λe w'=>e=.returned (.bool (xs.any q))/\Below w.heap.size w w':=by
 have k1:=ug p1 p2 q A n c xs w hr hn hc;have NT:=gO q xs
 have Yi:(cP q xs=-1/\xs.any q=false)\/(∃k:Nat,cP q xs=(k:Int)/\xs.any q=true):=by
  rcases NT with⟨h1,h2⟩|⟨k,hk,h1,h2⟩
  ·refine Or.inl ⟨h2,?_⟩;rw[mM]at h1;rw[List.any_eq_false];intro x hx;simpa using h1 x hx
  ·refine Or.inr ⟨k,h2,?_⟩;rw[List.any_eq_true];exact⟨xs[k],bQ _,List.find?_some h1⟩
 clear NT hc;generalize cP q xs=ix at*;generalize xs.any q=out at*;have K1:=ah k1;clear k1 hr;rcases Yi with⟨rfl,rfl⟩|⟨k,rfl,rfl⟩
 ·go_enter Tryz.func60,Tryz.ntmps60
  go_wp2_with fail
  refine K1.out.mono ?_;rintro e w1 ⟨rfl,M8⟩;go_wp2;go_ret;exact⟨rfl,M8⟩
 ·go_enter Tryz.func60,Tryz.ntmps60
  go_wp2_with fail
  refine K1.out.mono ?_;rintro e w1 ⟨rfl,M8⟩;go_wp2;go_ret;exact⟨rfl,M8⟩
def qX(B:Nat)(out:Value)(acc:List da)(A:Option Addr)(xs:List da)(w:World):Prop:=eF B out acc w/\Rd A xs.length 4 (cz xs) w/\xM out A xs.length
theorem qX.below{out:Value}{acc:List da}{xs:List da}{w1:World}(h:qX B out acc A xs w)(hb:Below w.heap.size w w1):qX B out acc A xs w1:=⟨h.1.below hb,h.2.1.below hb,h.2.2⟩
theorem qX.far{out v':Value}{acc RX:List da}{xs:List da}{w1:World}(h:qX B out acc A xs w)(ho:eF B v' RX w1)(hf:pD w w1 out v'):qX B v' RX A xs w1:=⟨ho,h.2.1.far hf h.2.2⟩
theorem zT{α:Type}(p:α->Bool)(l:List α)(k:Nat)(h:k<l.length):(l.take (k+1)).filter p=bif p l[k]then(l.take k).filter p++[l[k]]else(l.take k).filter p:=by
 rw[gL h,List.filter_append]
 cases hp:p l[k]<;>simp[hp]
theorem Iq(A:Option Addr)(n c:Nat)(xs:List da)(dev:ByteArray)(w:World)(hr:Rd A n 4 (cz xs) w)(hn:n<=1000000):Calls Tryz.prog 24 #[.slice A n c,.string dev] w (du w (tI xs dev.data.toList)):=by
 obtain rfl:=hr.dir;obtain⟨W0,Nb⟩:=bg w (.cells #[.string dev] 9);have Nm:=bm Nb;have S9:W0.cell? ⟨w.heap.size,0,none⟩=some (.string dev):=by rw[<-Nb];exact cK w _ _ _ 0
 have z0:W0.heap.size=w.heap.size+1:=by rw[<-Nb];simp
 obtain⟨W1,Ne⟩:=bg W0 (.cells #[.func (.func 59) #[] #[.pointer (some ⟨w.heap.size,0,none⟩)]] 88);have Tt:=bm Ne;have Ni:Below w.heap.size w W1:=Nm.trans (Tt.mono Nm.size);have hU:W1.cell? ⟨w.heap.size+1,0,none⟩=some (.func (.func 59) #[] #[.pointer (some ⟨w.heap.size,0,none⟩)]):=by rw[<-Ne,<-z0];exact cK W0 _ _ _ 0
 have z1:W1.heap.size=w.heap.size+2:=by rw[<-Ne];simp;omega
 have hT:W1.cell? ⟨w.heap.size,0,none⟩=some (.string dev):=(Tt.cell (p:=⟨w.heap.size,0,none⟩) (by show w.heap.size<_;omega)).trans S9;have Qs:w.heap.size<W1.heap.size:=by omega
 have hUw:w.heap.size+1<W1.heap.size:=by omega
 have hS:qX W1.heap.size (.slice none 0 0) [] A xs W1:=⟨eF.nil _ _,hr.below Ni,λ_ g o e x=>by cases x⟩;have No:=λk(h:k<xs.length)=>zT (qF xs dev.data.toList) xs k h
 have hlen:∀k,((xs.take k).filter (qF xs dev.data.toList)).length<=xs.length:=λk=>by
  have h1:=List.length_filter_le (qF xs dev.data.toList) (xs.take k);have h2:(xs.take k).length<=xs.length:=by rw[dm];omega
  omega
 have Nn:tI xs dev.data.toList=(xs.take xs.length).filter (qF xs dev.data.toList):=by rw[eM];rfl
 have Tq:(xs.take 0).filter (qF xs dev.data.toList)=[]:=rfl;have Rs:∀d,qF xs dev.data.toList d=(pm dev.data.toList d||(d.for_.isEmpty&&!xs.any λx=>pm dev.data.toList x&&x.name==d.name)):=λd=>rfl
 generalize qF xs dev.data.toList=mb at*;rw[Nn];clear Nn;obtain⟨HS,OR,Ox,TV,HMB,Nl⟩:=eN hS No hlen Tq Rs Nb;obtain⟨NC,HT,HU⟩:=bu Ne hT hU;have M8:=aO W1.heap.size W1;clear hS No hlen Tq Rs Nb Ne hT hU hr S9 z0 z1;go_enter Tryz.func24,Tryz.ntmps24
 go_wp2_with fail
 rw[Nl.out,NC.out];go_loopw [11,4] (λi out wr=>∃k:Nat,k<=xs.length/\i=.int .i64 k/\Hid (qX W1.heap.size out ((xs.take k).filter mb) A xs wr)/\Below W1.heap.size W1 wr) (λi _ _=>xs.length-(intOf i).toNat)
 case atStart=>exact⟨0,a_ _,rfl,by rw[TV.out];exact HS,M8⟩
 case round=>
  clear HS M8 TV;obtain⟨k,hk,rfl,HO,M_⟩:=hrel;obtain⟨oa,oc,rfl⟩:=HO.out.1.shape;have N5:=Ox.out k;by_cases Nc:k<xs.length
  ·obtain⟨b,o,rfl,hl,c0,c1,c2,c3⟩:=HO.out.2.1.dir_at (k:=k) Nc;have Nd:=OR.out k Nc;have Rs:=HMB.out xs[k];have RK:=HO.out.2.1;generalize xs[k]=d at*;generalize (xs.take k).filter mb=acc at*;obtain⟨dn,dv,dh,df⟩:=d;simp only at c0 c1 c2 c3 Rs
   obtain⟨W2,Nw⟩:=bg wr (.cells #[.string ⟨dn.toArray⟩,.string ⟨dv.toArray⟩,.bool dh,.string ⟨df.toArray⟩] 87);have TW:=bm Nw;have j4:=qg wr (.string ⟨dn.toArray⟩) (.string ⟨dv.toArray⟩) (.bool dh) (.string ⟨df.toArray⟩) 87;rw[Nw]at j4;have Nk:=M_.trans (TW.mono M_.size);have NM:=ah (HO.out.below TW);have hT2:=(Nk.cell (p:=⟨w.heap.size,0,none⟩) Qs).trans HT.out;have Vw:=(Nk.cell (p:=⟨w.heap.size+1,0,none⟩) hUw).trans HU.out;have k1:=zi w.heap.size dev ⟨dn,dv,dh,df⟩ W2 hT2 (bE Qs Nk.size)
   have k2:=λW(hb:Below W2.heap.size W2 W)=>pT (.pointer (some ⟨w.heap.size+1,0,none⟩)) (.pointer (some ⟨wr.heap.size,0,none⟩)) (λx=>pm dev.data.toList x&&x.name==dn) (some ⟨b,o,none⟩) xs.length c xs W ((NM.out.2.1).below hb) hn
    (λx _ W' N4=>F8 w.heap.size (w.heap.size+1) wr.heap.size dev ⟨dn,dv,dh,df⟩ x W' (((bt hb N4).cell (p:=⟨w.heap.size,0,none⟩) (bE Qs Nk.size)).trans hT2) (bE Qs (bj Nk.size (bt hb N4).size)) (((bt hb N4).cell (p:=⟨w.heap.size+1,0,none⟩) (bE hUw Nk.size)).trans Vw) (bE hUw (bj Nk.size (bt hb N4).size)) (((bt hb N4).cell (p:=⟨wr.heap.size,0,none⟩) j4.lt).trans j4.c0) (bE j4.lt (bt hb N4).size))
   simp only at k1
   obtain⟨J4,HU2⟩:=az j4 Vw;rw[<-Nw]at Vw;have Of:=ah Nw;obtain⟨x0,x1,x2,x3,_,_,_,_,xlt⟩:=j4;clear hT2 TW RK HO OR Ox HMB;clear Nw;have Xa:acc.length<=1000000000:=by omega
   cases how:pm dev.data.toList ⟨dn,dv,dh,df⟩
   ·rw[how]at k1;rw[how,ig]at Rs
    cases hfq:df.isEmpty
    ·rw[hfq,gN]at Rs;rw[Rs,cond_false]at Nd;obtain⟨OJ,K1⟩:=az Nd k1;clear Nd k1 k2 how Rs;go_wp2_with fail
     rw[Of.out];refine K1.out.mono ?_;rintro e w3 ⟨rfl,h3⟩;have Nu:=Nk.trans (h3.mono Nk.size);obtain⟨y0,y1,y2,y3,_,_,_,_,ylt⟩:=J4.out.below h3;have Ob:Hid (qX W1.heap.size (.slice oa acc.length oc) ((xs.take (k+1)).filter mb) (some ⟨b,o,none⟩) xs w3):=by rw[OJ.out];exact am (NM.out.below h3)
     clear x0 x1 x2 x3 h3 NM Vw;go_wp2;go_roundw
     case rel=>exact⟨k+1,by omega,by go_num,Ob,Nu⟩
     case measure=>simp[intOf];omega
    ·rw[hfq,eJ]at Rs;have hdf:df=[]:=List.isEmpty_iff.1 hfq;subst hdf;generalize (xs.any λx=>pm dev.data.toList x&&x.name==dn)=an at*
     cases an
     ·rw[Rs,iC,cond_true]at Nd;obtain⟨OJ,K1,K2⟩:=bu Nd k1 k2;clear Nd k1 k2 how Rs hfq;go_wp2_with fail
      rw[Of.out];refine K1.out.mono ?_;rintro e w3 ⟨rfl,h3⟩;obtain⟨y0,y1,y2,y3,_,_,_,_,ylt⟩:=J4.out.below h3;clear x0 x1 x2 x3 Vw;go_wp2_with fail
      refine(K2.out _ h3).mono ?_;rintro e w4 ⟨rfl,h4⟩;have Pp:=bt h3 h4;obtain⟨v0,v1,v2,v3,_,_,_,_,vlt⟩:=J4.out.below Pp;have Ny:=Nk.trans (Pp.mono Nk.size);have Pj:=ah (NM.out.below Pp);clear y0 y1 y2 y3 h3 h4 Pp NM K1 K2;go_wp2_with (at_builtin;refine DE W1.heap.size ⟨dn,dv,dh,[]⟩ Pj.out.1 Ny.size Xa rfl _ _ rfl rfl rfl ?_)
      intro v' w7 hO7 NG hfar7;have OE:=Ny.trans NG;have O6:Hid (qX W1.heap.size v' ((xs.take (k+1)).filter mb) (some ⟨b,o,none⟩) xs w7):=by rw[OJ.out];exact am (Pj.out.far hO7 hfar7)
      clear hO7 NG hfar7 Pj;go_wp2;go_roundw
      case rel=>exact⟨k+1,by omega,by go_num,O6,OE⟩
      case measure=>simp[intOf];omega
     ·rw[Rs,di,cond_false]at Nd;obtain⟨OJ,K1,K2⟩:=bu Nd k1 k2;clear Nd k1 k2 how Rs hfq;go_wp2_with fail
      rw[Of.out];refine K1.out.mono ?_;rintro e w3 ⟨rfl,h3⟩;obtain⟨y0,y1,y2,y3,_,_,_,_,ylt⟩:=J4.out.below h3;clear x0 x1 x2 x3 Vw;go_wp2_with fail
      refine(K2.out _ h3).mono ?_;rintro e w4 ⟨rfl,h4⟩;have Pp:=bt h3 h4;have Ny:=Nk.trans (Pp.mono Nk.size);have Ob:Hid (qX W1.heap.size (.slice oa acc.length oc) ((xs.take (k+1)).filter mb) (some ⟨b,o,none⟩) xs w4):=by rw[OJ.out];exact am (NM.out.below Pp)
      clear y0 y1 y2 y3 h3 h4 Pp NM K1 K2;go_wp2;go_roundw
      case rel=>exact⟨k+1,by omega,by go_num,Ob,Ny⟩
      case measure=>simp[intOf];omega
   ·rw[how]at k1;rw[how,iY]at Rs;rw[Rs,cond_true]at Nd;obtain⟨OJ,K1⟩:=az Nd k1;clear Nd k1 k2 how Rs;go_wp2_with fail
    rw[Of.out];refine K1.out.mono ?_;rintro e w4 ⟨rfl,Pp⟩;obtain⟨v0,v1,v2,v3,_,_,_,_,vlt⟩:=J4.out.below Pp;have Ny:=Nk.trans (Pp.mono Nk.size);have Pj:=ah (NM.out.below Pp);clear x0 x1 x2 x3 Pp NM K1 Vw;go_wp2_with (at_builtin;refine DE W1.heap.size ⟨dn,dv,dh,df⟩ Pj.out.1 Ny.size Xa rfl _ _ rfl rfl rfl ?_)
    intro v' w7 hO7 NG hfar7;have OE:=Ny.trans NG;have O6:Hid (qX W1.heap.size v' ((xs.take (k+1)).filter mb) (some ⟨b,o,none⟩) xs w7):=by rw[OJ.out];exact am (Pj.out.far hO7 hfar7)
    clear hO7 NG hfar7 Pj;go_wp2;go_roundw
    case rel=>exact⟨k+1,by omega,by go_num,O6,OE⟩
    case measure=>simp[intOf];omega
  ·have NI:k=xs.length:=by omega
   subst NI;have NM:=ah (HO.out.1.base Ni.size);have Nk:=Ni.trans (M_.mono Ni.size);clear OR Ox HMB HO;generalize (xs.take xs.length).filter mb=q at*;go_wp2;go_ret;exact⟨oa,oc,rfl,NM.out,Nk⟩
def eW(x:Nat):Bool:=((x:Int)==32)||((x:Int)==9)
theorem Hr(s:ByteArray)(i:Nat)(h:i<s.size):s.get! i=s[i]:=by
 show s.data[i]! =s.data[i]
 exact getElem!_pos s.data i h
theorem GW(s:ByteArray)(pos:Nat)(h:pos<s.size):1<=(Utf8.decode s pos).2/\pos+(Utf8.decode s pos).2<=s.size ∧ (eW (Utf8.decode s pos).1=true->(Utf8.decode s pos).2=1/\br.contains s[pos]=true) ∧ (eW (Utf8.decode s pos).1=false->∀j(hj:j<s.size),pos<=j->j<pos+(Utf8.decode s pos).2->br.contains s[j]=false):=by
 have g0:=Hr s pos h
 have hb:∀c:UInt8,128<=c.toNat->br.contains c=false:=by
  intro c hc
  cases hq:br.contains c
  ·rfl
  ·have:c=32\/c=9:=by simpa[br]using hq
   rcases this with e|e<;>subst e<;>simp at hc
 have hk:∀k,pos+k<s.size->(s.get! (pos+k)).toNat / 64=2->∀(hj:pos+k<s.size),br.contains s[pos+k]=false:=by intro k hk h2 hj;rw[Hr s (pos+k) hk]at h2;exact hb _ (by omega)
 have first:¬(s[pos]).toNat<128->∀n,(∀k,1<=k->k<n->pos+k<s.size/\(s.get! (pos+k)).toNat / 64=2)->∀j(hj:j<s.size),pos<=j->j<pos+n->br.contains s[j]=false:=by
  intro h0 n hn j hj h1 h2;obtain⟨k,rfl⟩:∃k,j=pos+k:=⟨j-pos,by omega⟩;rcases mw k with hz|hz
  ·subst hz;exact hb _ (by simpa using h0)
  ·obtain⟨a,b⟩:=hn k hz (by omega);exact hk k a b hj
 unfold Utf8.decode;simp only[Nat.add_zero,g0];by_cases UF:(s[pos]).toNat<0x80
 ·simp only[UF,if_true];refine⟨by omega,by omega,λhp=>⟨trivial,?_⟩,λhp j hj h1 h2=>?_⟩
  ·have:(s[pos]).toNat=32\/(s[pos]).toNat=9:=by simp[eW]at hp;omega
   have:s[pos]=32\/s[pos]=9:=by
    rcases this with e|e
    ·left;rw[<-UInt8.toNat_inj];exact e
    ·right;rw[<-UInt8.toNat_inj];exact e
   simpa[br]using this
  ·obtain rfl:j=pos:=by omega
   cases hq:br.contains s[j]
   ·rfl
   ·have:s[j]=32\/s[j]=9:=by simpa[br]using hq
    rcases this with e|e<;>rw[e]at hp<;>simp[eW]at hp
 ·have f1:=first UF 1 (λk h1 h2=>by omega)
  have bad:1<=1/\pos+1<=s.size/\(eW Utf8.runeError=true->1=1/\br.contains s[pos]=true)/\(eW Utf8.runeError=false->∀j(hj:j<s.size),pos<=j->j<pos+1->br.contains s[j]=false):=⟨by omega,by omega,λhp=>by simp[eW,Utf8.runeError]at hp,λ_=>f1⟩
  have ok:∀(c n:Nat),0x80<=c->1<=n->(∀k,1<=k->k<n->pos+k<s.size/\(s.get! (pos+k)).toNat / 64=2)->1<=n/\pos+n<=s.size/\(eW c=true->n=1/\br.contains s[pos]=true)/\(eW c=false->∀j(hj:j<s.size),pos<=j->j<pos+n->br.contains s[j]=false):=by
   intro c n hc hn NY;refine⟨hn,?_,λhp=>?_,λ_=>first UF n NY⟩
   ·rcases ef 1 n with h1|h1
    ·have:=(NY (n-1) (by omega) (by omega)).1;omega
    ·omega
   ·simp[eW]at hp;omega
  simp only[UF,if_false];split
  ·rename_i hc;simp only[eA,beq_iff_eq,decide_eq_true_eq]at hc;split
   ·rename_i h80;exact ok _ 2 h80 (by omega) (λk h1 h2=>by(obtain rfl:k=1:=(by omega));exact hc.2)
   ·exact bad
  ·split
   ·rename_i hc;simp only[eA,beq_iff_eq,decide_eq_true_eq]at hc;split
    ·rename_i h80;simp only[eA,decide_eq_true_eq]at h80;exact ok _ 3 (by omega) (by omega) (λk h1 h2=>by rcases(by omega:k=1\/k=2)with rfl|rfl;exact hc.1.2;exact hc.2)
    ·exact bad
   ·split
    ·rename_i hc;simp only[eA,beq_iff_eq,decide_eq_true_eq]at hc;split
     ·rename_i h80;simp only[eA,decide_eq_true_eq]at h80;exact ok _ 4 (by omega) (by omega) (λk h1 h2=>by rcases(by omega:k=1\/k=2\/k=3)with rfl|rfl|rfl;exact hc.1.1.2;exact hc.1.2;exact hc.2)
     ·exact bad
    ·exact bad
theorem pK(w:List UInt8):∀(x cur r:List UInt8),(∀c∈x,br.contains c=false)->iw w cur (x++r)=iw w (cur++x) r
 | [],cur,r,_=>by simp
 |c::x,cur,r,h=>by
  rw[mr,iw,h c (by simp),cond_false,pK w x _ r (λy hy=>h y (by simp[hy]))];simp
def pf(s:ByteArray)(pos:Nat):Option Nat->List UInt8
 |none=>[]
 |some a=>(s.data.toList.drop a).take (pos-a)
theorem Ao(s:ByteArray)(w:List UInt8)(hw:w≠[]):∀(f pos:Nat)(st:Option Nat)(acc:List (Nat × Nat)),s.size<=pos+f->pos<=s.size->(∀a,st=some a->a<=pos) ->((Lib.closeSpans s (Lib.spansFromP eW s f pos st acc)).any λx=>(s.extract x.1 x.2).data.toList==w)=((acc.any λx=>(s.extract x.1 x.2).data.toList==w)||iw w (pf s pos st) (s.data.toList.drop pos)):=by
 have hw0:(([]:List UInt8)==w)=false:=by rw[beq_eq_false_iff_ne];exact λe=>hw e.symm
 have base:∀(pos:Nat)(st:Option Nat)(acc:List (Nat × Nat)),pos=s.size->(∀a,st=some a->a<=pos)->((Lib.closeSpans s (acc,st)).any λx=>(s.extract x.1 x.2).data.toList==w)=((acc.any λx=>(s.extract x.1 x.2).data.toList==w)||iw w (pf s pos st) (s.data.toList.drop pos)):=by
  intro pos st acc hp Nd;rw[mP s pos (by omega)]
  cases st with
  |none=>simp only[Lib.closeSpans,pf,iw,hw0,mU]
  |some a=>
   simp only[Lib.closeSpans,pf,iw,List.any_append,List.any_cons,List.any_nil,mU,eD];rw[hp]
 intro f
 induction f with
 |zero=>
  intro pos st acc h1 h2 Nd;exact base pos st acc (by omega) Nd
 |succ f ih=>
  intro pos st acc h1 h2 Nd;unfold Lib.spansFromP;by_cases Nc:pos<s.size
  ·rw[if_pos Nc];obtain⟨d1,d2,d3,d4⟩:=GW s pos Nc;generalize Utf8.decode s pos=d at*;obtain⟨r,n⟩:=d;simp only at d1 d2 d3 d4 ⊢
   have hdc:=nE s pos Nc
   cases hp:eW r
   ·have NY:=d4 hp
    have hx:∀c∈(s.data.toList.drop pos).take n,br.contains c=false:=by
     intro c hc;rw[List.mem_take_iff_getElem]at hc;obtain⟨i,hi,rfl⟩:=hc;rw[List.getElem_drop]
     have Q7:pos+i<s.size:=by have:=bE hi (Nat.min_le_left _ _);omega
     rw[<-jm s (pos+i) Q7];exact NY (pos+i) Q7 (by omega) (by have:=bE hi (Nat.min_le_left _ _);omega)
    have Vd:s.data.toList.drop pos=(s.data.toList.drop pos).take n++s.data.toList.drop (pos+n):=by
     conv=>lhs;rw[<-List.take_append_drop n (s.data.toList.drop pos)]
     rw[List.drop_drop]
    simp only[mt,if_false]
    cases st with
    |none=>
     simp only
     rw[ih (pos+n) (some pos) acc (by omega) d2 (λa e=>by cases e;omega)]
     congr 1
     rw[Vd,pK w _ _ _ hx];simp only[pf,lp];rw[show pos+n-pos=n from by omega]
    |some a=>
     have ha:=Nd a rfl;simp only
     rw[ih (pos+n) (some a) acc (by omega) d2 (λb e=>by cases e;omega)]
     congr 1
     conv=>rhs;rw[Vd]
     rw[pK w _ _ _ hx]
     congr 1
     simp only[pf];rw[show pos+n-a=(pos-a)+n from by omega,List.take_add,List.drop_drop,show a+(pos-a)=pos from by omega]
   ·obtain⟨rfl,Nx⟩:=d3 hp;simp only[if_true]
    cases st with
    |none=>
     simp only
     rw[ih (pos+1) none acc (by omega) d2 (λa e=>by cases e),hdc,iw,Nx,cond_true];simp only[pf,hw0,ig]
    |some a=>
     simp only
     rw[ih (pos+1) none _ (by omega) d2 (λa e=>by cases e),hdc,iw,Nx,cond_true];simp only[pf,List.any_append,List.any_cons,List.any_nil,mU,eD,Bool.or_assoc]
  ·rw[if_neg Nc];exact base pos st acc (by omega) Nd
theorem ur(s:ByteArray)(w:List UInt8)(hw:w≠[]):Lib.containsS (Lib.goFieldsP eW s) ⟨w.toArray⟩=iw w [] s.data.toList:=by
 have h:=Ao s w hw s.size 0 none [] (by omega) (by omega) (λa e=>by cases e)
 have e:iw w [] s.data.toList=((Lib.spansOfP eW s).any λx=>(s.extract x.1 x.2).data.toList==w):=by unfold Lib.spansOfP;rw[h];simp[pf]
 rw[e,jj,Lib.containsS_iff];unfold Lib.goFieldsP;rw[eY,List.any_eq_true];constructor
 ·rintro⟨x,hx,hq⟩;exact⟨x,hx,by rw[hq];simp⟩
 ·rintro⟨x,hx,hq⟩;exact⟨x,hx,G8 (by simpa using hq)⟩
theorem wI:∀(l:List UInt8)(b:Bool)(s:List UInt8),tJ b l=some s->s.length<=l.length
 | [],b,s,h=>by
  unfold tJ at h
  cases b
  ·simp at h;subst h;simp
  ·simp at h
 |c::r,b,s,h=>by
  unfold tJ at h
  cases h1:(!pV c||(c.toNat==34&&!b))<;>rw[h1]at h
  ·rw[cond_false]at h
   cases h2:(c.toNat==92&&!b)<;>rw[h2]at h
   ·rw[cond_false]at h
    cases hu:tJ false r with
    |none=>rw[hu]at h;cases h
    |some t=>
     rw[hu]at h;simp only[Option.map_some,Option.some.injEq]at h;subst h;have:=wI r false t hu;simp;omega
   ·rw[cond_true]at h;have:=wI r true s h;simp;omega
  ·cases h
theorem H9{l s:List UInt8}(h:mG l=some s):s.length<=l.length:=by
 unfold mG at h
 cases hc:(decide (2<=l.length)&&(l.head?.getD 0).toNat==34&&(l.getLast?.getD 0).toNat==34)<;>rw[hc]at h
 ·cases h
 ·rw[cond_true]at h;have:=wI _ _ _ h;simp at this
  omega
theorem vZ{p:List UInt8}{d:da}(h:dZ p=some d):d.name.length<=p.length/\d.value.length<=p.length/\d.for_=[]:=by
 have hl:(Lib.cut p [61]).1.length<=p.length/\(Lib.cut p [61]).2.1.length<=p.length:=by
  unfold Lib.cut;by_cases h0:0<=Lib.index p [61]
  ·rw[if_pos h0];simp;omega
  ·rw[if_neg h0];simp
 unfold dZ at h;generalize Lib.cut p [61]=c at*;obtain⟨a,b,has⟩:=c;simp only at h hl
 cases ht:be a<;>rw[ht]at h
 ·cases h
 ·simp only[di,cond_false]at h
  cases hb:(has&&!be b)<;>rw[hb]at h
  ·rw[cond_false]at h;injection h with h
   subst h;exact⟨by show(ai a).length<=_;rw[d_];exact hl.1,hl.2,rfl⟩
  ·rw[cond_true]at h
   cases hu:mG b with
   |none=>rw[hu]at h;cases h
   |some s=>
    rw[hu]at h;simp only[Option.map_some,Option.some.injEq]at h;subst h;exact⟨by show(ai a).length<=_;rw[d_];exact hl.1,bj (H9 hu) hl.2,rfl⟩
def A1(B:Nat)(d:da):Prop:=d.name.length<=B/\d.value.length<=B/\d.for_.length<=B
theorem GM{l:List da}{f:List UInt8}(hl:∀d∈l,A1 B d)(hf:f.length<=B):∀d∈lj l f,A1 B d:=by
 intro d hd;unfold lj at hd;split at hd
 ·rename_i x;rw[cA]at hd;subst hd;have:=hl x (by simp);refine⟨this.1,this.2.1,?_⟩
  cases f with
  |nil=>exact this.2.2
  |cons _ _=>exact hf
 ·cases hd
theorem Bp{p:List UInt8}:∀d∈jd p,A1 (p.length+8) d:=by
 intro d hd;have ht:=ci 59 p;have hm:=λx(hx:x∈(ax 59 p).1)=>cG hx
 unfold jd at hd
 have hs:∀a∈(ax 59 p).1,∀d∈(dZ a).toList,A1 (p.length+8) d:=by
  intro a ha d hd;have h1:=hm a ha
  cases hq:dZ a with
  |none=>rw[hq]at hd;cases hd
  |some x=>
   rw[hq]at hd;simp at hd
   subst hd;obtain⟨q1,q2,q3⟩:=vZ hq;exact⟨by omega,by omega,by rw[q3];simp⟩
 cases hz:((ax 59 p).2 !=0)<;>rw[hz]at hd
 ·rw[cond_false]at hd;split at hd
  ·rename_i a e;rw[e]at hs;exact GM (hs a (by simp)) (by simp) d hd
  ·rename_i a b e;rw[e]at hs hm ht
   cases hb:be b<;>rw[hb]at hd
   ·cases hd
   ·exact GM (hs a (by simp)) (by have:=hm b (by simp);omega) d hd
  ·cases hd
 ·rw[cond_true,cA]at hd;subst hd;refine⟨?_,?_,?_⟩<;>simp[lM,noStore]
theorem yd(hv:∀v∈vs,v.length<=B):∀d∈cY vs,A1 (B+8) d:=by
 intro d hd;unfold cY at hd;obtain⟨v,P5,hd⟩:=List.mem_flatMap.1 hd;have hb:=hv v P5
 cases hz:((ax 44 v).2==0)<;>rw[hz]at hd
 ·rw[cond_false,cA]at hd;subst hd;refine⟨?_,?_,?_⟩<;>simp[lM,noStore]
 ·rw[cond_true]at hd;obtain⟨p,hp,hd⟩:=List.mem_flatMap.1 hd;have h1:=cG hp;have h2:=ci 44 v;obtain⟨q1,q2,q3⟩:=Bp d hd;exact⟨by omega,by omega,by omega⟩
theorem jE(n:Int)(w:World):Calls Tryz.prog 111 #[.int .i64 n] w λe w'=>e=.returned (.int .i64 (le n))/\w=w':=by
 rcases(by omega:n<0\/n=0\/(0<n/\n<=2147483648)\/2147483648<n)with h|h|⟨h,h2⟩|h
 ·have Hb:=ah (DG h);go_enter Tryz.func111,Tryz.ntmps111
  go_wp2
  all_goals (go_ret;exact⟨eV (by first|exact Hb.out.symm|(rw[Hb.out];omega)),rfl⟩)
 ·subst h;go_enter Tryz.func111,Tryz.ntmps111
  go_wp2
  all_goals (go_ret;exact⟨eV (by first|rfl|omega),rfl⟩)
 ·have Hb:=ah (Ha (Int.le_of_lt h) h2);go_enter Tryz.func111,Tryz.ntmps111
  go_wp2
  all_goals (go_ret;exact⟨eV (by first|exact Hb.out.symm|(rw[Hb.out];omega)),rfl⟩)
 ·have Hb:=ah (C9 h);go_enter Tryz.func111,Tryz.ntmps111
  go_wp2
  all_goals (go_ret;exact⟨eV (by first|exact Hb.out.symm|(rw[Hb.out];omega)),rfl⟩)
theorem MO(c:UInt8):I_ c=(decide (48<=(c.toNat:Int))&&decide ((c.toNat:Int)<=57)):=by unfold I_;rw[jj];simp;omega
theorem pN(s:ByteArray)(w:World)(hs:s.size<=1000000):Calls Tryz.prog 72 #[.string s] w λe w'=>e=.returned (kY s.data.toList)/\w=w':=by
 have hB:∀k(h:k<s.size),I_ s[k]=false->kY s.data.toList=.tuple #[.int .i64 0,.bool false]:=λk h hb=>Er s k h hb
 have hQ:∀k,(s.data.toList.take k).all I_=true->s.size<=k->kY s.data.toList=.tuple #[.int .i64 (le (val (s.data.toList.take k))),.bool (!s.data.toList.isEmpty)]:=by
  intro k h hk;rw[eH s k hk]at h ⊢;unfold kY fC;rw[h,kN]
  cases hz:s.data.toList<;>rfl
 obtain⟨HB,HQ⟩:=az hB hQ;clear hB hQ;generalize kY s.data.toList=out at*;go_enter Tryz.func72,Tryz.ntmps72
 go_wp2;go_loop [8,4] (λi n=>∃(k:Nat) (v:Int),k<=s.size/\i=.int .i64 k/\n=.int .i64 v/\0<=v/\v<=2147483648/\Hid (v=le (val (s.data.toList.take k)))/\Hid ((s.data.toList.take k).all I_=true)) (λi _=>s.size-(intOf i).toNat)
 case atStart=>exact⟨0,0,a_ _,rfl,rfl,by omega,by omega,by show _=_;rfl,by show _=_;simp⟩
 case round=>
  obtain⟨k,v,hk,rfl,rfl,hv0,P5,Hv,Py⟩:=hrel;by_cases Nc:k<s.size
  ·have hu:=qI s[k];have hd:=MO s[k]
   cases c1:decide (48<=(s[k].toNat:Int))<;>cases c2:decide ((s[k].toNat:Int)<=57)
   ·exfalso;simp at c1 c2;omega
   ·have hf:=HB.out k Nc (by rw[hd,c1,c2];rfl);have Hf:=ah hf;clear hf hd;have c3:decide ((s[k].toNat:Int)<48)=true:=by simp at c1 ⊢;omega
    go_wp2;go_ret2
    exact⟨by rw[Hf.out];rfl,rfl⟩
   ·have hf:=HB.out k Nc (by rw[hd,c1,c2];rfl);have Hf:=ah hf;clear hf hd;have c3:decide ((s[k].toNat:Int)<48)=false:=by simp at c1 ⊢;omega
    have c4:decide (57<(s[k].toNat:Int))=true:=by simp at c2 ⊢;omega
    go_wp2;go_ret2
    exact⟨by rw[Hf.out];rfl,rfl⟩
   ·have hn:(s.data.toList.take (k+1)).all I_=true:=by rw[lE I_ s k Nc,Py.out,hd,c1,c2];rfl
    have c3:decide ((s[k].toNat:Int)<48)=false:=by simp at c1 ⊢;omega
    have c4:decide (57<(s[k].toNat:Int))=false:=by simp at c2 ⊢;omega
    have c5:(48:Int)<=(s[k].toNat:Int):=by simp at c1;omega
    have QW:le (10*v+((s[k].toNat:Int)-48))=le (val (s.data.toList.take (k+1))):=by rw[nF s k Nc,GO,Hv.out,<-IK];congr 2;omega
    obtain⟨Hn,Hs⟩:=az hn QW;clear hn QW hd c1 c2;go_wp2_with (go_at_call 111;refine(jE _ _).mono ?_;rintro e w' ⟨rfl,rfl⟩)
    go_round
    case rel=>exact⟨k+1,_,by omega,by go_num,rfl,ma _,lP _,Hs,Hn⟩
    case measure=>simp[intOf];omega
  ·have hf:=HQ.out k Py.out (by omega);rw[<-Hv.out]at hf;have Hf:=ah hf;clear hf;go_wp2;go_ret2
   exact⟨by rw[Hf.out];simp[dY],rfl⟩
def bI(C:Nat)(k:ue)(w:World):Prop:=w.heap[C]?=some (.cells #[.bool k.noStore,.bool k.noRemote,.bool k.esi,.bool k.hasAge,.int .i64 k.age,.int .i64 k.extra] 45 (0,0))
theorem bI.lt{k:ue}(h:bI C k w):C<w.heap.size:=by
 rcases ef C w.heap.size with h'|h'
 ·exact h'
 ·unfold bI at h;simp[fy h']at h
theorem bI.below{k:ue}(h:bI C k w)(hb:Below w.heap.size w w'):bI C k w':=(hb.block C h.lt).trans h
theorem bI.cells{k:ue}(h:bI C k w):w.cell? ⟨C,0,none⟩=some (.bool k.noStore)/\w.cell? ⟨C,1,none⟩=some (.bool k.noRemote)/\w.cell? ⟨C,2,none⟩=some (.bool k.esi)/\w.cell? ⟨C,3,none⟩=some (.bool k.hasAge)/\w.cell? ⟨C,4,none⟩=some (.int .i64 k.age)/\w.cell? ⟨C,5,none⟩=some (.int .i64 k.extra)/\∀j,w.frozen? ⟨C,j,none⟩=false:=⟨(ab h 0).1,(ab h 1).1,(ab h 2).1,(ab h 3).1,(ab h 4).1,(ab h 5).1,λj=>(ab h j).2.1⟩
theorem bI.set0{k:ue}(h:bI C k w):bI C { k with noStore:=true } (w.setCell ⟨C,0,none⟩ (.bool true)):=by unfold bI at*;simp[World.setCell,fJ,h]
theorem bI.set1{k:ue}(h:bI C k w):bI C { k with noRemote:=true } (w.setCell ⟨C,1,none⟩ (.bool true)):=by unfold bI at*;simp[World.setCell,fJ,h]
theorem bI.set2{k:ue}(h:bI C k w)(b:Bool):bI C { k with esi:=b } (w.setCell ⟨C,2,none⟩ (.bool b)):=by unfold bI at*;simp[World.setCell,fJ,h]
theorem bI.set3{k:ue}(h:bI C k w):bI C { k with hasAge:=true } (w.setCell ⟨C,3,none⟩ (.bool true)):=by unfold bI at*;simp[World.setCell,fJ,h]
theorem bI.set45{k:ue}(h:bI C k w)(a x:Int):bI C { k with age:=a,extra:=x } ((w.setCell ⟨C,4,none⟩ (.int .i64 a)).setCell ⟨C,5,none⟩ (.int .i64 x)):=by unfold bI at*;simp[World.setCell,fJ,h]
def rr(C:Nat)(k:ue)(w:World)(e:Ending)(w':World):Prop:=(∃v,e=.returned v)/\bI C k w'/\ap C w w'
theorem JI(C:Nat)(k:ue)(v:ByteArray)(w:World)(h:bI C k w):Calls Tryz.prog 65 #[.pointer (some ⟨C,0,none⟩),.string v] w (rr C { k with noStore:=true } w):=by
 obtain⟨c0,_,_,_,_,_,hf⟩:=h.cells;have hf0:=hf 0;have Nn:bI C { k with noStore:=true } (w.setCell ⟨C,0,none⟩ (.bool true))/\ap C w (w.setCell ⟨C,0,none⟩ (.bool true)):=⟨h.set0,ap.setCell C 0 w _⟩;have HF:=ah Nn;clear hf Nn h;go_enter Tryz.func65,Tryz.ntmps65
 go_wp2;go_end0
 exact⟨⟨_,rfl⟩,HF.out.1,HF.out.2⟩
theorem J7(C:Nat)(k:ue)(v:ByteArray)(w:World)(h:bI C k w):Calls Tryz.prog 66 #[.pointer (some ⟨C,0,none⟩),.string v] w (rr C { k with noRemote:=true } w):=by
 obtain⟨_,c0,_,_,_,_,hf⟩:=h.cells;have hf0:=hf 1;have Nn:bI C { k with noRemote:=true } (w.setCell ⟨C,1,none⟩ (.bool true))/\ap C w (w.setCell ⟨C,1,none⟩ (.bool true)):=⟨h.set1,ap.setCell C 1 w _⟩;have HF:=ah Nn;clear hf Nn h;go_enter Tryz.func66,Tryz.ntmps66
 go_wp2;go_end0
 exact⟨⟨_,rfl⟩,HF.out.1,HF.out.2⟩
theorem yH(w:World):PredAtRunes Tryz.prog 69 #[] eW w:=by
 intro W x _ _;show Calls Tryz.prog 69 #[.int .i32 (x:Int)] W _
 unfold eW;go_enter Tryz.func69,Tryz.ntmps69
 cases h1:((x:Int)==32)
 ·go_wp2;go_ret;exact⟨rfl,0,rfl⟩
 ·go_wp2;go_ret;exact⟨rfl,0,rfl⟩
theorem Kr(C:Nat)(k:ue)(v:ByteArray)(w:World)(h:bI C k w)(hv:v.size<=1000000):Calls Tryz.prog 67 #[.pointer (some ⟨C,0,none⟩),.string v] w (rr C { k with esi:=iw zJ [] v.data.toList } w):=by
 have k1:=Tryz.strings_FieldsFunc_runes 69 #[] (enters_of Tryz.func69 (by kernel_rfl) rfl) eW v w (by omega) (yH w);have Uv:=ur v zJ (by simp[zJ]);have hlen:(Lib.goFieldsP eW v).length<=9223372036854775807\/True:=Or.inr trivial;generalize iw zJ [] v.data.toList=out at*;generalize Lib.goFieldsP eW v=zs at*;obtain⟨K1,HCW,H⟩:=bu k1 Uv h;clear k1 Uv h hlen;go_enter Tryz.func67,Tryz.ntmps67
 go_wp2_with fail
 refine K1.out.mono ?_;rintro e w1 ⟨a1,rfl,hA,Nj,M8⟩
 have hz:zs.length<=9223372036854775807:=by
  rcases Nj.2 with⟨hv,h0⟩|⟨g,cp,cur,hv,hg,hh,hn,hc,hs,hx⟩
  ·cases hv
  ·unfold maxLen at hc;omega
 have k2:=Tryz.slices_Contains_string a1 0 zs.length zs.length zs ⟨zJ.toArray⟩ w1 (aw _) hz (fun j hj=>by have:=Nj.cells (g:=a1) rfl j (.string (zs.getD j ByteArray.empty)) (by simp[List.getD,hj]);rw[iq];rw[show(⟨a1,0,none⟩:Addr).add j=⟨a1,j,none⟩from by unfold Addr.add;split<;>simp_all]at this;exact this)
 rw[eM,HCW.out]at k2;have h1:=H.out.below M8;have Ni:=ap.of M8 (T:=C) (dF H.out.lt);have K2:=ah k2;obtain⟨_,_,c2,_,_,_,hf⟩:=h1.cells;have VU:=hf 2;have HF:=ah (aB (h1.set2 out) (Ni.trans (ap.setCell C 2 w1 (.bool out))));clear k2 Nj hf h1 Ni;go_wp2_with fail
 refine K2.out.mono ?_;rintro e w2 ⟨rfl,rfl⟩;go_wp2;go_end0
 exact⟨⟨_,rfl⟩,HF.out.1,HF.out.2⟩
theorem cq.beside(h:cq w)(hb:ap C w w')(hC:0<C):cq w':=by obtain⟨h0,m,h⟩:=h;exact⟨bE h0 hb.size,m,(hb.cell 0 h0 (by omega)).trans h⟩
theorem JF(C:Nat)(a b c d:Bool)(v:ByteArray)(w:World)(hM:cq w)(hC:0<C)(h:bI C ⟨a,b,c,d,0,0⟩ w)(hv:v.size<=1000000):Calls Tryz.prog 70 #[.pointer (some ⟨C,0,none⟩),.string v] w (rr C ⟨a,b,c,true,(agesL v.data.toList).1,(agesL v.data.toList).2⟩ w):=by
 have k1:=λW hW=>iL v ⟨#[43]⟩ W hW hv
 rw[show(⟨#[43]⟩:ByteArray).data.toList=[43]from rfl]at k1;have hl:=sK v.data.toList [43];rw[<-aY]at hl;have hag:agesL v.data.toList=bif fC (Lib.cut v.data.toList [43]).1&&(fC (Lib.cut v.data.toList [43]).2.1==(Lib.cut v.data.toList [43]).2.2)then(le (val (Lib.cut v.data.toList [43]).1),bif fC (Lib.cut v.data.toList [43]).2.1 then le (val (Lib.cut v.data.toList [43]).2.1)else 0)else(0,0):=rfl;rw[hag];clear hag;generalize Lib.cut v.data.toList [43]=ct at*;obtain⟨x,y,two⟩:=ct;obtain⟨x,rfl⟩:∃o:ByteArray,x=o.data.toList:=⟨⟨x.toArray⟩,rfl⟩;obtain⟨y,rfl⟩:∃o:ByteArray,y=o.data.toList:=⟨⟨y.toArray⟩,rfl⟩;simp only[bN,<-aY]at k1 hl ⊢;have k2:=λW=>pN x W (by omega)
 have k3:=λW=>pN y W (by omega)
 unfold kY at k2 k3;obtain⟨_,_,_,c3,c4,c5,hf⟩:=h.cells;simp only at c3 c4 c5
 have hf3:=hf 3;have h1:=h.set3;have ZQ:=ap.setCell C 3 w (.bool true);have Uc:=hM.beside ZQ hC;obtain⟨W1,Ne⟩:=aH (w.setCell ⟨C,3,none⟩ (.bool true));rw[Ne]at h1 ZQ Uc;have kf:∀W,Below W1.heap.size W1 W->bI C ⟨a,b,c,true,0,0⟩ W/\ap C w W:=λW hb=>⟨h1.below hb,ZQ.trans (ap.of hb (dF h1.lt))⟩
 generalize fC x.data.toList=dx at*;generalize fC y.data.toList=dy at*;generalize le (val x.data.toList)=vx at*;generalize le (val y.data.toList)=vy at*;obtain⟨NC,KF⟩:=az Ne kf;clear hM ZQ hf kf Ne h h1 c4 c5
 cases dx<;>cases dy<;>cases two
 all_goals (
  simp only[cond_true,cond_false,kN,jU,beq_self_eq_true,show(false==true)=false from rfl,show(true==false)=false from rfl]at k2 k3 ⊢;obtain⟨K1,K2,K3⟩:=bu (k1 W1 Uc) k2 k3;clear k1 k2 k3 Uc hl;go_enter Tryz.func70,Tryz.ntmps70
  go_wp2_with fail
  rw[NC.out];refine K1.out.mono ?_;rintro e w2 ⟨rfl,M9⟩;obtain⟨q1,q2⟩:=KF.out w2 M9;obtain⟨_,_,_,_,e4,e5,hf⟩:=q1.cells;simp only at e4 e5
  have f4:=hf 4;have f5:=hf 5;have Q1:=ah q1;clear M9 hf q1 K1 KF NC c3 hf3;go_wp2_with fail
  refine(K2.out _).mono ?_;rintro e w3 ⟨rfl,rfl⟩;go_wp2_with fail
  refine(K3.out _).mono ?_;rintro e w3 ⟨rfl,rfl⟩;go_wp2;go_end0
  first
   |exact⟨⟨_,rfl⟩,Q1.out,q2⟩
   |exact⟨⟨_,rfl⟩,Q1.out.set45 _ _,(q2.trans (ap.setCell C 4 _ _)).trans (ap.setCell C 5 _ _)⟩)
theorem E5(w:World):Calls Tryz.prog 26 #[] w λe w'=>e=.returned (.slice (some ⟨w.heap.size,0,none⟩) 4 4)/\w'=w.alloc (.cells #[.string nX,.func (.func 65) #[] #[],.string C2,.func (.func 66) #[] #[],.string DN,.func (.func 67) #[] #[],.string C8,.func (.func 70) #[] #[]] 84):=by
 go_enter Tryz.func26,Tryz.ntmps26
 go_wp2;go_ret;exact⟨rfl,rfl⟩
theorem rz(V:Nat)(nm:List UInt8)(d:da)(w:World)(hV:w.cell? ⟨V,0,none⟩=some (.string ⟨nm.toArray⟩))(hVw:V<w.heap.size):Calls Tryz.prog 28 #[.agg #[.string ⟨d.name.toArray⟩,.string ⟨d.value.toArray⟩,.bool d.has,.string ⟨d.for_.toArray⟩],.pointer (some ⟨V,0,none⟩)] w λe w'=>e=.returned (.bool (d.name==nm))/\Below w.heap.size w w':=by
 obtain⟨dn,dv,dh,df⟩:=d;simp only
 have N5:=(aO w.heap.size w).alloc (aw _) (.cells #[.string ⟨dn.toArray⟩,.string ⟨dv.toArray⟩,.bool dh,.string ⟨df.toArray⟩] 87);have hV2:=(N5.cell (p:=⟨V,0,none⟩) hVw).trans hV;go_enter Tryz.func28,Tryz.ntmps28
 go_wp2;go_ret;exact⟨rfl,N5⟩
theorem kA(p1:Value)(q:da->Bool)(A:Option Addr)(n c:Nat)(xs:List da)(w:World)(hr:Rd A n 4 (cz xs) w)(hn:n<=1000000)(hc:∀d∈xs,∀W,Below w.heap.size w W->Calls Tryz.prog 28 #[.agg #[.string ⟨d.name.toArray⟩,.string ⟨d.value.toArray⟩,.bool d.has,.string ⟨d.for_.toArray⟩],p1] W λe W'=>e=.returned (.bool (q d))/\Below W.heap.size W W'):Calls Tryz.prog 27 #[.slice A n c,.func (.func 28) #[] #[p1]] w λe w'=>e=.returned (.int .i64 (cP q xs))/\Below w.heap.size w w':=by
 obtain rfl:=hr.dir;have No:=λk(h:k<xs.length)=>@jA xs q k h
 have RT:∀k(h:k<xs.length),(xs.take k).find? q=none->q xs[k]=true->cP q xs=k:=by
  intro k h ON hp;unfold cP
  rw[show xs.findIdx? q=some k from by
   rw[List.findIdx?_eq_some_iff_getElem];refine⟨h,hp,λj hj=>?_⟩;rw[mM]at ON;refine ON xs[j] ?_;rw[List.mem_take_iff_getElem];exact⟨j,by omega,rfl⟩]
 have PE:∀k,k=xs.length->(xs.take k).find? q=none->cP q xs=-1:=by
  intro k hk h;subst hk;rw[eM]at h;unfold cP
  rw[show xs.findIdx? q=none from by
   rw[List.findIdx?_eq_none_iff];rw[mM]at h;intro x hx';simpa using h x hx']
 generalize cP q xs=out at*;obtain⟨HR,HS,HH,HE,HC⟩:=gB hr No RT PE hc;clear hr No RT PE hc;go_enter Tryz.func27,Tryz.ntmps27
 go_wp2_with fail
 go_loopw [8] (λi wr=>∃k:Nat,k<=xs.length/\i=.int .i64 k/\Hid ((xs.take k).find? q=none)/\Below w.heap.size w wr) (λi _=>xs.length-(intOf i).toNat)
 case atStart=>exact⟨0,a_ _,rfl,am (by simp),aO _ _⟩
 case round=>
  obtain⟨k,hk,rfl,HN,Oy⟩:=hrel;by_cases Nc:k<xs.length
  ·obtain⟨b,o,rfl,hl,x0,x1,x2,x3⟩:=(HR.out.below Oy).dir_at (k:=k) Nc;have Nd:=HS.out k Nc HN.out;have Uf:=HH.out k Nc HN.out;have k1:=HC.out xs[k] (bQ _) wr Oy;generalize xs[k]=d at*;obtain⟨dn,dv,dh,df⟩:=d;simp only at x0 x1 x2 x3 k1
   cases hq:q ⟨dn,dv,dh,df⟩
   ·rw[hq]at k1;have RJ:=ah (Nd hq);have K1:=ah k1;clear Nd Uf k1 hq HS HH HE HN HC;go_wp2_with fail
    refine K1.out.mono ?_;rintro e w1 ⟨rfl,M8⟩;have Ni:=Oy.trans (M8.mono Oy.size);go_wp2;go_roundw
    case rel=>exact⟨k+1,by omega,by go_num,RJ,Ni⟩
    case measure=>simp[intOf];omega
   ·rw[hq]at k1;have ho:=Uf hq;subst ho;have K1:=ah k1;clear Nd Uf k1 hq HS HH HE HN HC;go_wp2_with fail
    refine K1.out.mono ?_;rintro e w1 ⟨rfl,M8⟩;have Ni:=Oy.trans (M8.mono Oy.size);go_wp2;go_ret;exact⟨rfl,Ni⟩
  ·have ho:=HE.out k (by omega) HN.out;subst ho;clear HS HH HE HN HC;go_wp2;go_ret;exact⟨rfl,Oy⟩
def Bk(k:ue):Value:=.agg #[.bool k.noStore,.bool k.noRemote,.bool k.esi,.bool k.hasAge,.int .i64 k.age,.int .i64 k.extra]
def cJ(l:List da):Nat->ue
 |0=>⟨false,false,false,false,0,0⟩
 |1=>⟨(fY l noStore).isSome,false,false,false,0,0⟩
 |2=>⟨(fY l noStore).isSome,(fY l lR).isSome,false,false,0,0⟩
 |3=>⟨(fY l noStore).isSome,(fY l lR).isSome,match fY l lm with|some v=>iw zJ [] v|none=>false,false,0,0⟩
 |_=>Fc l
theorem l_{l:List da}{nm:List UInt8}(h:l.find? (λd=>d.name==nm)=none):fY l nm=none:=by unfold fY;rw[h];rfl
theorem lX{l:List da}{nm:List UInt8}{d:da}(h:l.find? (λd=>d.name==nm)=some d):fY l nm=some d.value:=by unfold fY;rw[h];rfl
theorem Rd.below2{n size:Nat}{xs:List Value}(h:Rd A n size xs w)(hb:ap C w w')(hC:∀b o,A=some ⟨b,o,none⟩->b≠C):Rd A n size xs w':=by refine⟨h.1,λhn=>?_⟩;obtain⟨b,o,e,hl,hc⟩:=h.2 hn;exact⟨b,o,e,bE hl hb.size,λj u hu=>(hb.cell (o+j) hl (hC b o e)).trans (hc j u hu)⟩
theorem nx(A:Option Addr)(n c:Nat)(vs:List (List UInt8))(dev:ByteArray)(w:World)(hM:cq w)(hr:Rd A n 1 (aF vs) w)(hn:n<=10000)(hl:∀v∈vs,v.length<=900000):Calls Tryz.prog 11 #[.slice A n c,.string dev] w λe w'=>e=.returned (Bk (vj vs dev.data.toList))/\Below w.heap.size w w':=by
 obtain rfl:=hr.str;obtain⟨W0,Nb⟩:=bg w lV;have Nm:=bm Nb;have Td:bI w.heap.size ⟨false,false,false,false,0,0⟩ W0:=by rw[<-Nb];exact World.alloc_heap_new w _
 have z0:W0.heap.size=w.heap.size+1:=by rw[<-Nb];simp
 have Wv:0<w.heap.size:=hM.1;have k1:=yX A vs.length c vs W0 (hM.below Nm) (hr.below Nm) hn (λv hv=>by have:=hl v hv;omega);have Rg:=s9 vs;have hdl0:=yd (B:=900000) hl;have hofl:vj vs dev.data.toList=Fc (tI (cY vs) dev.data.toList):=rfl;rw[hofl];have SN:(tI (cY vs) dev.data.toList).length<=(cY vs).length:=List.length_filter_le _ _
 have PZ:∀d∈tI (cY vs) dev.data.toList,d.value.length<=1000000:=λd hd=>by have:=(hdl0 d (lD.1 hd).1).2.1;omega
 have k2:=λa c W(h:Rd a (cY vs).length 4 (cz (cY vs)) W)=>Iq a (cY vs).length c (cY vs) dev W h (by omega)
 generalize tI (cY vs) dev.data.toList=ls at*;generalize cY vs=l0 at*;have P4:ls.length<=1000000:=by omega
 have hct4:cJ ls 4=Fc ls:=rfl;rw[<-hct4];obtain⟨K1,K2,Nl,T0,HDL,Yo⟩:=eN k1 k2 Nb Td PZ (hM.below Nm);have Tv:=ah z0;have hCl0:w.heap.size<W0.heap.size:=by omega
 clear z0;clear k1 k2 Nb Td PZ hdl0 hM hr hofl SN Rg hct4 hl;go_enter Tryz.func11,Tryz.ntmps11
 go_wp2_with fail
 rw[Nl.out];refine K1.out.mono ?_;rintro e w1 ⟨a1,c1,rfl,Nr,M8⟩;have R1:=ah Nr.rd.2;clear Nr;go_wp2_with fail
 refine(K2.out _ _ _ R1.out).mono ?_;rintro e w2 ⟨la,lc,rfl,Nz,M9⟩;have Nk:=bt M8 M9
 have ZY:∀b o,la=some ⟨b,o,none⟩->b≠w.heap.size:=λb o e=>by have:=mf Nz b o e;have:=M8.size;have:=Tv.out;omega
 have Wj:=ah ZY;have R2:=ah Nz.rd.2;clear Nz ZY R1 K1 K2;go_wp2_with fail
 refine(E5 _).mono ?_;rintro e w3 ⟨rfl,QI⟩;have Na:Below w2.heap.size w2 w3:=by rw[QI];exact(aO _ w2).alloc (aw _) _
 have VF:w3.heap.size=w2.heap.size+1:=by rw[QI];simp
 have hR0a:w3.cell? ⟨w2.heap.size,0,none⟩=some (.string nX):=by rw[QI];exact cK w2 _ _ _ 0
 have hR0b:w3.cell? ⟨w2.heap.size,1,none⟩=some (.func (.func 65) #[] #[]):=by rw[QI];exact cK w2 _ _ _ 1
 obtain⟨Yf,Zn⟩:=az hR0a hR0b;have hR1a:w3.cell? ⟨w2.heap.size,2,none⟩=some (.string C2):=by rw[QI];exact cK w2 _ _ _ 2
 have hR1b:w3.cell? ⟨w2.heap.size,3,none⟩=some (.func (.func 66) #[] #[]):=by rw[QI];exact cK w2 _ _ _ 3
 obtain⟨Yb,Yd⟩:=az hR1a hR1b;have hR2a:w3.cell? ⟨w2.heap.size,4,none⟩=some (.string DN):=by rw[QI];exact cK w2 _ _ _ 4
 have hR2b:w3.cell? ⟨w2.heap.size,5,none⟩=some (.func (.func 67) #[] #[]):=by rw[QI];exact cK w2 _ _ _ 5
 obtain⟨Zg,YR⟩:=az hR2a hR2b;have hR3a:w3.cell? ⟨w2.heap.size,6,none⟩=some (.string C8):=by rw[QI];exact cK w2 _ _ _ 6
 have hR3b:w3.cell? ⟨w2.heap.size,7,none⟩=some (.func (.func 70) #[] #[]):=by rw[QI];exact cK w2 _ _ _ 7
 obtain⟨YF,XX⟩:=az hR3a hR3b;have Nu:=bt Nk Na;have Vg:=ah (T0.out.below Nu);have HRL:=ah (R2.out.below Na);have HM:=ah (Yo.out.below Nu);have QW:=Nk.size;have SI:w2.heap.size<w3.heap.size:=by omega
 have Rl:w2.heap.size≠w.heap.size:=by omega
 have N_:=Vg.out;clear hR0a hR0b hR1a hR1b hR2a hR2b hR3a hR3b QI Na R2 T0 Yo M8 M9 N_;obtain⟨R,hRe⟩:=aH w2.heap.size;rw[hRe]at Yf Zn Yb Yd Zg YR YF XX SI Rl ⊢;clear hRe VF;go_wp2_with fail
 go_loopw [15] (λi wr=>∃j:Nat,j<=4/\i=.int .i64 j/\Hid (bI w.heap.size (cJ ls j) wr)/\ap w.heap.size w3 wr) (λi _=>4-(intOf i).toNat)
 case atStart=>exact⟨0,by omega,rfl,Vg,ap.of (aO _ _) (by have:=Nu.size;omega)⟩
 case round=>
  clear Vg;obtain⟨j,hj,rfl,HC,M_⟩:=hrel;rcases(by omega:j=0\/j=1\/j=2\/j=3\/j=4)with rfl|rfl|rfl|rfl|rfl
  ·-- rule 1
   have r0:=(M_.cell 0 SI Rl).trans Yf.out;have r1:=(M_.cell 1 SI Rl).trans Zn.out;obtain⟨W4,Oz⟩:=bg wr (.cells #[.string nX,.func (.func 65) #[] #[]] 84);have QR:=bm Oz;have v0:W4.cell? ⟨wr.heap.size,0,none⟩=some (.string nX):=by rw[<-Oz];exact cK wr _ _ _ 0
   have v1:W4.cell? ⟨wr.heap.size,1,none⟩=some (.func (.func 65) #[] #[]):=by rw[<-Oz];exact cK wr _ _ _ 1
   have QY:wr.heap.size<W4.heap.size:=by rw[<-Oz];simp
   have RD:=(HRL.out.below2 M_ Wj.out).below QR;have k5:=kA (.pointer (some ⟨wr.heap.size,0,none⟩)) (λd=>d.name==noStore) la ls.length lc ls W4 RD P4 (λd _ W' N4=>rz wr.heap.size noStore d W' ((N4.cell (p:=⟨wr.heap.size,0,none⟩) QY).trans v0) (bE QY N4.size));have NT:=gO (λd=>d.name==noStore) ls;have Uv:=HC.out.lt;have Pv:=ah (HC.out.below QR);have Ny:=M_.trans (ap.of QR (dF HC.out.lt));have SY:=ah RD;generalize cP (λd=>d.name==noStore) ls=ix at*;obtain⟨K5,Ri,XP⟩:=bu k5 Oz v1;clear k5 Oz QR v0 v1 RD HC M_;rcases NT with⟨hf,rfl⟩|⟨k,hk,hf,rfl⟩
   ·have NR:cJ ls 1=cJ ls 0:=by unfold cJ;rw[l_ hf];rfl
    have O1:=ah NR;clear NR hf;go_wp2_with fail
    rw[Ri.out];refine K5.out.mono ?_;rintro e w5 ⟨rfl,h5⟩;have OZ:Hid (bI w.heap.size (cJ ls 1) w5):=by rw[O1.out];exact am (Pv.out.below h5)
    have Oh:=Ny.trans (ap.of h5 (dF Pv.out.lt));clear h5 r0 r1;go_wp2;go_roundw
    case rel=>exact⟨1,by omega,by rfl,OZ,Oh⟩
    case measure=>simp[intOf]
   ·have PZ:=HDL.out ls[k] (bQ _);obtain⟨d,hd⟩:=aH (ls[k]);rw[hd]at hf PZ;have UR:=lX hf;obtain⟨dn,dv,dh,df⟩:=d;have NR:cJ ls 1={ cJ ls 0 with noStore:=true }:=by unfold cJ;rw[UR];rfl
    obtain⟨O1,HD⟩:=az NR hd;have Sn:(⟨dv.toArray⟩:ByteArray).size<=1000000:=by rw[aY];exact PZ
    clear NR hf hd PZ UR;go_wp2_with fail
    rw[Ri.out];refine K5.out.mono ?_;rintro e w5 ⟨rfl,h5⟩;obtain⟨b,o,rfl,Nx,_,x1,_,_⟩:=(SY.out.below h5).dir_at (k:=k) hk;rw[HD.out]at x1;simp only at x1
    have SX:b≠w.heap.size:=Wj.out b o rfl;have SD:wr.heap.size<w5.heap.size:=bE QY h5.size;have s0:=(h5.cell (p:=⟨wr.heap.size,1,none⟩) QY).trans XP.out;have s1:=x1;have OZ:=ah (Pv.out.below h5);have Oh:=Ny.trans (ap.of h5 (dF Pv.out.lt));have UV:=HM.out.beside Oh Wv;have SU:=Nx;have SQ:wr.heap.size≠w.heap.size:=by omega
    have RF:ap w.heap.size w5 w5.drew:=⟨(aO _ _).drew,λ_ _ _=>rfl⟩;have U8:w5.drew.cell? ⟨wr.heap.size,1,none⟩=some (.func (.func 65) #[] #[]):=s0;have UH:w5.drew.cell? ⟨b,o+k*4+1,none⟩=some (.string ⟨dv.toArray⟩):=s1;have Sc:=UV.beside RF Wv;have QG:bI w.heap.size (cJ ls 0) w5.drew:=OZ.out;have k6:=JI w.heap.size _ ⟨dv.toArray⟩ _ QG;obtain⟨K6,R8⟩:=az k6 (Oh.trans RF);clear h5 r0 r1 k6 QG Sc UV RF x1;go_wp2_with fail
    refine wp_region_held_drew (S:=(λw'=>w'.cell? ⟨wr.heap.size,1,none⟩=some (.func (.func 65) #[] #[])/\w'.cell? ⟨b,o+k*4+1,none⟩=some (.string ⟨dv.toArray⟩))) (by kernel_rfl) (aB U8 UH) (λM7=>?_);refine aX 0 1 2 3 M7 ?_;refine eC 4 5 M7 ?_;refine fM 6 M7 ?_;refine cL 7 λK hK=>?_
    go_simp;refine(K6.out).mono ?_;rintro e w6 ⟨⟨_,rfl⟩,Rf,NP⟩;have U3:=aB ((NP.cell 1 SD SQ).trans U8) ((NP.cell (o+k*4+1) SU SX).trans UH);go_wp2_with fail
    refine hK.out _ _ U3 (λM7=>?_);clear hK K
    try simp only[Act.put,go,gk,gn]
    refine wpAnyH_done (by kernel_rfl) ?_ _;have Rp:Hid (bI w.heap.size (cJ ls 1) w6):=by rw[O1.out];exact am Rf
    have Ow:=R8.out.trans NP;clear Rf NP M7 U3;go_wp2;go_roundw
    case rel=>exact⟨1,by omega,by rfl,Rp,Ow⟩
    case measure=>simp[intOf]
  ·-- rule 2
   have r0:=(M_.cell 2 SI Rl).trans Yb.out;have r1:=(M_.cell 3 SI Rl).trans Yd.out;obtain⟨W4,Oz⟩:=bg wr (.cells #[.string C2,.func (.func 66) #[] #[]] 84);have QR:=bm Oz;have v0:W4.cell? ⟨wr.heap.size,0,none⟩=some (.string C2):=by rw[<-Oz];exact cK wr _ _ _ 0
   have v1:W4.cell? ⟨wr.heap.size,1,none⟩=some (.func (.func 66) #[] #[]):=by rw[<-Oz];exact cK wr _ _ _ 1
   have QY:wr.heap.size<W4.heap.size:=by rw[<-Oz];simp
   have RD:=(HRL.out.below2 M_ Wj.out).below QR;have k5:=kA (.pointer (some ⟨wr.heap.size,0,none⟩)) (λd=>d.name==lR) la ls.length lc ls W4 RD P4 (λd _ W' N4=>rz wr.heap.size lR d W' ((N4.cell (p:=⟨wr.heap.size,0,none⟩) QY).trans v0) (bE QY N4.size));have NT:=gO (λd=>d.name==lR) ls;have Uv:=HC.out.lt;have Pv:=ah (HC.out.below QR);have Ny:=M_.trans (ap.of QR (dF HC.out.lt));have SY:=ah RD;generalize cP (λd=>d.name==lR) ls=ix at*;obtain⟨K5,Ri,XP⟩:=bu k5 Oz v1;clear k5 Oz QR v0 v1 RD HC M_;rcases NT with⟨hf,rfl⟩|⟨k,hk,hf,rfl⟩
   ·have NR:cJ ls 2=cJ ls 1:=by unfold cJ;rw[l_ hf];rfl
    have O1:=ah NR;clear NR hf;go_wp2_with fail
    rw[Ri.out];refine K5.out.mono ?_;rintro e w5 ⟨rfl,h5⟩;have OZ:Hid (bI w.heap.size (cJ ls 2) w5):=by rw[O1.out];exact am (Pv.out.below h5)
    have Oh:=Ny.trans (ap.of h5 (dF Pv.out.lt));clear h5 r0 r1;go_wp2;go_roundw
    case rel=>exact⟨2,by omega,by rfl,OZ,Oh⟩
    case measure=>simp[intOf]
   ·have PZ:=HDL.out ls[k] (bQ _);obtain⟨d,hd⟩:=aH (ls[k]);rw[hd]at hf PZ;have UR:=lX hf;obtain⟨dn,dv,dh,df⟩:=d;have NR:cJ ls 2={ cJ ls 1 with noRemote:=true }:=by unfold cJ;rw[UR];rfl
    obtain⟨O1,HD⟩:=az NR hd;have Sn:(⟨dv.toArray⟩:ByteArray).size<=1000000:=by rw[aY];exact PZ
    clear NR hf hd PZ UR;go_wp2_with fail
    rw[Ri.out];refine K5.out.mono ?_;rintro e w5 ⟨rfl,h5⟩;obtain⟨b,o,rfl,Nx,_,x1,_,_⟩:=(SY.out.below h5).dir_at (k:=k) hk;rw[HD.out]at x1;simp only at x1
    have SX:b≠w.heap.size:=Wj.out b o rfl;have SD:wr.heap.size<w5.heap.size:=bE QY h5.size;have s0:=(h5.cell (p:=⟨wr.heap.size,1,none⟩) QY).trans XP.out;have s1:=x1;have OZ:=ah (Pv.out.below h5);have Oh:=Ny.trans (ap.of h5 (dF Pv.out.lt));have UV:=HM.out.beside Oh Wv;have SU:=Nx;have SQ:wr.heap.size≠w.heap.size:=by omega
    have RF:ap w.heap.size w5 w5.drew:=⟨(aO _ _).drew,λ_ _ _=>rfl⟩;have U8:w5.drew.cell? ⟨wr.heap.size,1,none⟩=some (.func (.func 66) #[] #[]):=s0;have UH:w5.drew.cell? ⟨b,o+k*4+1,none⟩=some (.string ⟨dv.toArray⟩):=s1;have Sc:=UV.beside RF Wv;have QG:bI w.heap.size (cJ ls 1) w5.drew:=OZ.out;have k6:=J7 w.heap.size _ ⟨dv.toArray⟩ _ QG;obtain⟨K6,R8⟩:=az k6 (Oh.trans RF);clear h5 r0 r1 k6 QG Sc UV RF x1;go_wp2_with fail
    refine wp_region_held_drew (S:=(λw'=>w'.cell? ⟨wr.heap.size,1,none⟩=some (.func (.func 66) #[] #[])/\w'.cell? ⟨b,o+k*4+1,none⟩=some (.string ⟨dv.toArray⟩))) (by kernel_rfl) (aB U8 UH) (λM7=>?_);refine aX 0 1 2 3 M7 ?_;refine eC 4 5 M7 ?_;refine fM 6 M7 ?_;refine cL 7 λK hK=>?_
    go_simp;refine(K6.out).mono ?_;rintro e w6 ⟨⟨_,rfl⟩,Rf,NP⟩;have U3:=aB ((NP.cell 1 SD SQ).trans U8) ((NP.cell (o+k*4+1) SU SX).trans UH);go_wp2_with fail
    refine hK.out _ _ U3 (λM7=>?_);clear hK K
    try simp only[Act.put,go,gk,gn]
    refine wpAnyH_done (by kernel_rfl) ?_ _;have Rp:Hid (bI w.heap.size (cJ ls 2) w6):=by rw[O1.out];exact am Rf
    have Ow:=R8.out.trans NP;clear Rf NP M7 U3;go_wp2;go_roundw
    case rel=>exact⟨2,by omega,by rfl,Rp,Ow⟩
    case measure=>simp[intOf]
  ·-- rule 3
   have r0:=(M_.cell 4 SI Rl).trans Zg.out;have r1:=(M_.cell 5 SI Rl).trans YR.out;obtain⟨W4,Oz⟩:=bg wr (.cells #[.string DN,.func (.func 67) #[] #[]] 84);have QR:=bm Oz;have v0:W4.cell? ⟨wr.heap.size,0,none⟩=some (.string DN):=by rw[<-Oz];exact cK wr _ _ _ 0
   have v1:W4.cell? ⟨wr.heap.size,1,none⟩=some (.func (.func 67) #[] #[]):=by rw[<-Oz];exact cK wr _ _ _ 1
   have QY:wr.heap.size<W4.heap.size:=by rw[<-Oz];simp
   have RD:=(HRL.out.below2 M_ Wj.out).below QR;have k5:=kA (.pointer (some ⟨wr.heap.size,0,none⟩)) (λd=>d.name==lm) la ls.length lc ls W4 RD P4 (λd _ W' N4=>rz wr.heap.size lm d W' ((N4.cell (p:=⟨wr.heap.size,0,none⟩) QY).trans v0) (bE QY N4.size));have NT:=gO (λd=>d.name==lm) ls;have Uv:=HC.out.lt;have Pv:=ah (HC.out.below QR);have Ny:=M_.trans (ap.of QR (dF HC.out.lt));have SY:=ah RD;generalize cP (λd=>d.name==lm) ls=ix at*;obtain⟨K5,Ri,XP⟩:=bu k5 Oz v1;clear k5 Oz QR v0 v1 RD HC M_;rcases NT with⟨hf,rfl⟩|⟨k,hk,hf,rfl⟩
   ·have NR:cJ ls 3=cJ ls 2:=by unfold cJ;rw[l_ hf];rfl
    have O1:=ah NR;clear NR hf;go_wp2_with fail
    rw[Ri.out];refine K5.out.mono ?_;rintro e w5 ⟨rfl,h5⟩;have OZ:Hid (bI w.heap.size (cJ ls 3) w5):=by rw[O1.out];exact am (Pv.out.below h5)
    have Oh:=Ny.trans (ap.of h5 (dF Pv.out.lt));clear h5 r0 r1;go_wp2;go_roundw
    case rel=>exact⟨3,by omega,by rfl,OZ,Oh⟩
    case measure=>simp[intOf]
   ·have PZ:=HDL.out ls[k] (bQ _);obtain⟨d,hd⟩:=aH (ls[k]);rw[hd]at hf PZ;have UR:=lX hf;obtain⟨dn,dv,dh,df⟩:=d;have NR:cJ ls 3={ cJ ls 2 with esi:=iw zJ [] dv }:=by unfold cJ;rw[UR];rfl
    obtain⟨O1,HD⟩:=az NR hd;have Sn:(⟨dv.toArray⟩:ByteArray).size<=1000000:=by rw[aY];exact PZ
    clear NR hf hd PZ UR;go_wp2_with fail
    rw[Ri.out];refine K5.out.mono ?_;rintro e w5 ⟨rfl,h5⟩;obtain⟨b,o,rfl,Nx,_,x1,_,_⟩:=(SY.out.below h5).dir_at (k:=k) hk;rw[HD.out]at x1;simp only at x1
    have SX:b≠w.heap.size:=Wj.out b o rfl;have SD:wr.heap.size<w5.heap.size:=bE QY h5.size;have s0:=(h5.cell (p:=⟨wr.heap.size,1,none⟩) QY).trans XP.out;have s1:=x1;have OZ:=ah (Pv.out.below h5);have Oh:=Ny.trans (ap.of h5 (dF Pv.out.lt));have UV:=HM.out.beside Oh Wv;have SU:=Nx;have SQ:wr.heap.size≠w.heap.size:=by omega
    have RF:ap w.heap.size w5 w5.drew:=⟨(aO _ _).drew,λ_ _ _=>rfl⟩;have U8:w5.drew.cell? ⟨wr.heap.size,1,none⟩=some (.func (.func 67) #[] #[]):=s0;have UH:w5.drew.cell? ⟨b,o+k*4+1,none⟩=some (.string ⟨dv.toArray⟩):=s1;have Sc:=UV.beside RF Wv;have QG:bI w.heap.size (cJ ls 2) w5.drew:=OZ.out;have k6:=Kr w.heap.size _ ⟨dv.toArray⟩ _ QG Sn;obtain⟨K6,R8⟩:=az k6 (Oh.trans RF);clear h5 r0 r1 k6 QG Sc UV RF x1;go_wp2_with fail
    refine wp_region_held_drew (S:=(λw'=>w'.cell? ⟨wr.heap.size,1,none⟩=some (.func (.func 67) #[] #[])/\w'.cell? ⟨b,o+k*4+1,none⟩=some (.string ⟨dv.toArray⟩))) (by kernel_rfl) (aB U8 UH) (λM7=>?_);refine aX 0 1 2 3 M7 ?_;refine eC 4 5 M7 ?_;refine fM 6 M7 ?_;refine cL 7 λK hK=>?_
    go_simp;refine(K6.out).mono ?_;rintro e w6 ⟨⟨_,rfl⟩,Rf,NP⟩;have U3:=aB ((NP.cell 1 SD SQ).trans U8) ((NP.cell (o+k*4+1) SU SX).trans UH);go_wp2_with fail
    refine hK.out _ _ U3 (λM7=>?_);clear hK K
    try simp only[Act.put,go,gk,gn]
    refine wpAnyH_done (by kernel_rfl) ?_ _;have Rp:Hid (bI w.heap.size (cJ ls 3) w6):=by rw[O1.out];exact am Rf
    have Ow:=R8.out.trans NP;clear Rf NP M7 U3;go_wp2;go_roundw
    case rel=>exact⟨3,by omega,by rfl,Rp,Ow⟩
    case measure=>simp[intOf]
  ·-- rule 4
   have r0:=(M_.cell 6 SI Rl).trans YF.out;have r1:=(M_.cell 7 SI Rl).trans XX.out;obtain⟨W4,Oz⟩:=bg wr (.cells #[.string C8,.func (.func 70) #[] #[]] 84);have QR:=bm Oz;have v0:W4.cell? ⟨wr.heap.size,0,none⟩=some (.string C8):=by rw[<-Oz];exact cK wr _ _ _ 0
   have v1:W4.cell? ⟨wr.heap.size,1,none⟩=some (.func (.func 70) #[] #[]):=by rw[<-Oz];exact cK wr _ _ _ 1
   have QY:wr.heap.size<W4.heap.size:=by rw[<-Oz];simp
   have RD:=(HRL.out.below2 M_ Wj.out).below QR;have k5:=kA (.pointer (some ⟨wr.heap.size,0,none⟩)) (λd=>d.name==ia) la ls.length lc ls W4 RD P4 (λd _ W' N4=>rz wr.heap.size ia d W' ((N4.cell (p:=⟨wr.heap.size,0,none⟩) QY).trans v0) (bE QY N4.size));have NT:=gO (λd=>d.name==ia) ls;have Uv:=HC.out.lt;have Pv:=ah (HC.out.below QR);have Ny:=M_.trans (ap.of QR (dF HC.out.lt));have SY:=ah RD;generalize cP (λd=>d.name==ia) ls=ix at*;obtain⟨K5,Ri,XP⟩:=bu k5 Oz v1;clear k5 Oz QR v0 v1 RD HC M_;rcases NT with⟨hf,rfl⟩|⟨k,hk,hf,rfl⟩
   ·have NR:cJ ls 4=cJ ls 3:=by unfold cJ;unfold Fc;rw[l_ hf];rfl
    have O1:=ah NR;clear NR hf;go_wp2_with fail
    rw[Ri.out];refine K5.out.mono ?_;rintro e w5 ⟨rfl,h5⟩;have OZ:Hid (bI w.heap.size (cJ ls 4) w5):=by rw[O1.out];exact am (Pv.out.below h5)
    have Oh:=Ny.trans (ap.of h5 (dF Pv.out.lt));clear h5 r0 r1;go_wp2;go_roundw
    case rel=>exact⟨4,by omega,by rfl,OZ,Oh⟩
    case measure=>simp[intOf]
   ·have PZ:=HDL.out ls[k] (bQ _);obtain⟨d,hd⟩:=aH (ls[k]);rw[hd]at hf PZ;have UR:=lX hf;obtain⟨dn,dv,dh,df⟩:=d;have NR:cJ ls 4=⟨(cJ ls 3).noStore,(cJ ls 3).noRemote,(cJ ls 3).esi,true,(agesL dv).1,(agesL dv).2⟩:=by unfold cJ;unfold Fc;rw[UR];rfl
    obtain⟨O1,HD⟩:=az NR hd;have Sn:(⟨dv.toArray⟩:ByteArray).size<=1000000:=by rw[aY];exact PZ
    clear NR hf hd PZ UR;go_wp2_with fail
    rw[Ri.out];refine K5.out.mono ?_;rintro e w5 ⟨rfl,h5⟩;obtain⟨b,o,rfl,Nx,_,x1,_,_⟩:=(SY.out.below h5).dir_at (k:=k) hk;rw[HD.out]at x1;simp only at x1
    have SX:b≠w.heap.size:=Wj.out b o rfl;have SD:wr.heap.size<w5.heap.size:=bE QY h5.size;have s0:=(h5.cell (p:=⟨wr.heap.size,1,none⟩) QY).trans XP.out;have s1:=x1;have OZ:=ah (Pv.out.below h5);have Oh:=Ny.trans (ap.of h5 (dF Pv.out.lt));have UV:=HM.out.beside Oh Wv;have SU:=Nx;have SQ:wr.heap.size≠w.heap.size:=by omega
    have RF:ap w.heap.size w5 w5.drew:=⟨(aO _ _).drew,λ_ _ _=>rfl⟩;have U8:w5.drew.cell? ⟨wr.heap.size,1,none⟩=some (.func (.func 70) #[] #[]):=s0;have UH:w5.drew.cell? ⟨b,o+k*4+1,none⟩=some (.string ⟨dv.toArray⟩):=s1;have Sc:=UV.beside RF Wv;have QG:bI w.heap.size (cJ ls 3) w5.drew:=OZ.out;have k6:=JF w.heap.size _ _ _ _ ⟨dv.toArray⟩ _ Sc Wv QG Sn;obtain⟨K6,R8⟩:=az k6 (Oh.trans RF);clear h5 r0 r1 k6 QG Sc UV RF x1;go_wp2_with fail
    refine wp_region_held_drew (S:=(λw'=>w'.cell? ⟨wr.heap.size,1,none⟩=some (.func (.func 70) #[] #[])/\w'.cell? ⟨b,o+k*4+1,none⟩=some (.string ⟨dv.toArray⟩))) (by kernel_rfl) (aB U8 UH) (λM7=>?_);refine aX 0 1 2 3 M7 ?_;refine eC 4 5 M7 ?_;refine fM 6 M7 ?_;refine cL 7 λK hK=>?_
    go_simp;refine(K6.out).mono ?_;rintro e w6 ⟨⟨_,rfl⟩,Rf,NP⟩;have U3:=aB ((NP.cell 1 SD SQ).trans U8) ((NP.cell (o+k*4+1) SU SX).trans UH);go_wp2_with fail
    refine hK.out _ _ U3 (λM7=>?_);clear hK K
    try simp only[Act.put,go,gk,gn]
    refine wpAnyH_done (by kernel_rfl) ?_ _;have Rp:Hid (bI w.heap.size (cJ ls 4) w6):=by rw[O1.out];exact am Rf
    have Ow:=R8.out.trans NP;clear Rf NP M7 U3;go_wp2;go_roundw
    case rel=>exact⟨4,by omega,by rfl,Rp,Ow⟩
    case measure=>simp[intOf]
  ·obtain⟨c0,c1,c2,c3,c4,c5,hf⟩:=HC.out.cells;have Nn:=Nm.trans ((Nu.mono Nm.size).trans (M_.1.mono (aw _)));obtain⟨kk,hkk⟩:=aH (cJ ls 4);rw[hkk]at c0 c1 c2 c3 c4 c5;have HK:=ah hkk;clear hkk;obtain⟨k0,k1,k2,k3,k4,k5⟩:=kk;simp only at c0 c1 c2 c3 c4 c5
   have f0:=hf 0;have f1:=hf 1;have f2:=hf 2;have f3:=hf 3;have f4:=hf 4;have f5:=hf 5;clear hf HC HRL HM HDL Wj Yf Zn Yb Yd Zg YR YF XX M_;go_wp2_with fail
   refine bodyPost_ret_by (v:=Bk ⟨k0,k1,k2,k3,k4,k5⟩) ?_ rfl ?_
   ·rw[fT rfl];go_simp;rfl
   ·exact⟨by rw[HK.out],(((((Nn.setCell (p:=⟨w.heap.size,0,none⟩) (aw _) _).setCell (p:=⟨w.heap.size,1,none⟩) (aw _) _).setCell (p:=⟨w.heap.size,2,none⟩) (aw _) _).setCell (p:=⟨w.heap.size,3,none⟩) (aw _) _).setCell (p:=⟨w.heap.size,4,none⟩) (aw _) _).setCell (p:=⟨w.heap.size,5,none⟩) (aw _) _⟩
def o9:Value->Int
 |.int _ n=>n
 |_=>0
theorem MX(c:UInt8):dg c=(decide (48<=(c.toNat:Int))&&decide ((c.toNat:Int)<=57)):=by unfold dg;rw[jj];simp;omega
theorem uH:∀(l:List UInt8)(c:UInt8)(a:Int),nK (l++[c]) a=10*nK l a+((c.toNat:Int)-48)
 | [],c,a=>rfl
 |x::r,c,a=>by rw[mr,nK,nK,uH r c]
theorem wH:∀(l:List UInt8),l.all dg=true->∀a:Int,0<=a->0<=nK l a/\nK l a<(a+1)*10 ^ l.length
 | [],_,a,ha=>by simp[nK];omega
 |x::r,h,a,ha=>by
  rw[jh,eA]at h;have hx:=h.1;unfold dg at hx;simp at hx
  have ih:=wH r h.2 (10*a+((x.toNat:Int)-48)) (by omega);rw[nK,cg,Int.pow_succ];refine⟨ih.1,Int.lt_of_lt_of_le ih.2 ?_⟩;have h1:(10*a+((x.toNat:Int)-48)+1)<=(a+1)*10:=by omega
  have h2:=Int.mul_le_mul_of_nonneg_right h1 (show(0:Int)<=10 ^ r.length from Int.le_of_lt (Int.pow_pos (by decide)));rw[Int.mul_comm (10 ^ r.length) 10,<-Int.mul_assoc];exact h2
theorem eP(s:ByteArray)(n:Nat)(hn:n<=4)(w:World):Calls Tryz.prog 356 #[.string s,.int .i64 n] w λe w'=>e=.returned (.tuple #[.int .i64 (cn s.data.toList n).1,.string ⟨(cn s.data.toList n).2.1.toArray⟩,.bool (cn s.data.toList n).2.2])/\∃q,w'=w.drewN q:=by
 obtain⟨R,hR⟩:=aH (cn s.data.toList n);rw[hR];unfold cn at hR;rw[<-aY]at hR;by_cases Nc:s.size<n
 ·have N3:R=(0,[],false):=by rw[<-hR];simp[Nc]
  subst N3;clear hR;go_enter Tryz.func356,Tryz.ntmps356
  go_wp2;go_ret3
  exact⟨rfl,0,rfl⟩
 ·have hd:decide (s.size<n)=false:=by simpa using Nc
  rw[hd]at hR;simp only[cond_false]at hR;have HR:=ah hR;clear hR hd;go_enter Tryz.func356,Tryz.ntmps356
  go_wp2_with fail
  go_loopw [7,14] (λk i wr=>∃j:Nat,j<=n/\i=.int .i64 j/\(∃v,k=.int .i64 v/\Hid (v=nK (s.data.toList.take j) 0))/\Hid ((s.data.toList.take j).all dg=true)/\wr=w) (λ_ i _=>n-(o9 i).toNat)
  case atStart=>exact⟨0,a_ _,rfl,⟨0,rfl,am (by simp[nK])⟩,am (by simp),rfl⟩
  case round=>
   obtain⟨j,hj,rfl,⟨v,rfl,HV⟩,Qe,rfl⟩:=hrel;by_cases hjn:j<n
   ·have ZP:j<s.size:=by omega
    have hu:=qI s[j];have Ro:=nF s j ZP
    cases hdg:dg s[j]
    ·have NB:∃(b:Bool),(s.data.toList.take n).all dg=false:=by
      refine⟨true,?_⟩;rw[List.all_eq_false];exact⟨s[j],by rw[List.mem_take_iff_getElem];exact⟨j,by rw[<-aY];omega,rfl⟩,by simp[hdg]⟩
     obtain⟨_,NB⟩:=NB;have N3:R=(0,[],false):=by rw[<-HR.out,NB];rfl
     have hI:=MX s[j];rw[hdg]at hI;subst N3
     have NT:(s[j].toNat:Int)<48\/(¬(s[j].toNat:Int)<48/\57<(s[j].toNat:Int)):=by
      have:=hI;simp at this
      omega
     clear hI hdg NB Ro HR;rcases NT with hc|⟨Rz,PF⟩
     ·have t1:decide ((s[j].toNat:Int)<48)=true:=by simpa using hc
      go_wp2;go_ret3
      exact⟨rfl,0,rfl⟩
     ·have t1:decide ((s[j].toNat:Int)<48)=false:=by simpa using Rz
      have t2:decide ((s[j].toNat:Int)>57)=true:=by simpa using PF
      go_wp2;go_ret3
      exact⟨rfl,0,rfl⟩
    ·have hI:=MX s[j];rw[hdg]at hI
     have hc:48<=(s[j].toNat:Int)/\(s[j].toNat:Int)<=57:=by
      have:=hI.symm;simp at this
      omega
     have t1:decide ((s[j].toNat:Int)<48)=false:=by simp;omega
     have t2:decide ((s[j].toNat:Int)>57)=false:=by simp;omega
     have hb:=wH (s.data.toList.take j) Qe.out 0 (by omega);rw[<-HV.out]at hb;have Te:(s.data.toList.take j).length<=3:=by rw[dm];omega
     have hp:((10:Int)) ^ (s.data.toList.take j).length<=1000:=by
      generalize (s.data.toList.take j).length=L at Te;have h4:L=0\/L=1\/L=2\/L=3:=by omega
      rcases h4 with rfl|rfl|rfl|rfl<;>decide
     have hv:0<=v/\v<=1000:=by omega
     have Re:IntKind.i64.wrap (10*v)=10*v:=by rw[b_];omega
     have OU:IntKind.u8.wrap ((s[j].toNat:Int)-48)=(s[j].toNat:Int)-48:=by rw[IntKind.wrap_u8];omega
     have QI:IntKind.i64.wrap ((s[j].toNat:Int)-48)=(s[j].toNat:Int)-48:=by rw[b_];omega
     have T_:IntKind.i64.wrap (10*v+((s[j].toNat:Int)-48))=10*v+((s[j].toNat:Int)-48):=by rw[b_];omega
     have hw5:IntKind.i64.wrap ((j:Int)+1)=((j+1:Nat):Int):=by rw[b_];omega
     have Tj:10*v+((s[j].toNat:Int)-48)=nK (s.data.toList.take (j+1)) 0:=by rw[Ro,uH,<-HV.out]
     have NY:(s.data.toList.take (j+1)).all dg=true:=by rw[Ro,n7,Qe.out];simp[hdg]
     obtain⟨HN,VM⟩:=az Tj NY;clear hI hdg hb hp Te Tj NY Ro HV Qe;go_wp2;go_roundw
     case rel=>exact⟨j+1,hjn,rfl,⟨_,rfl,HN⟩,VM,trivial⟩
     case measure=>simp[o9];omega
   ·have hjn2:j=n:=by omega
    subst hjn2;have N3:R=(v,s.data.toList.drop j,true):=by rw[<-HR.out,Qe.out,<-HV.out];rfl
    have hns:j<=s.size:=by omega
    subst N3
    have hex:s.extract j s.size=⟨(s.data.toList.drop j).toArray⟩:=by
     apply dE
     rw[eD];have:(s.data.toList.drop j).length<=s.size-j:=by rw[gH,<-aY];omega
     rw[jJ this]
    have HEX:=ah hex;clear HR HV Qe hex;go_wp2;go_region
    go_wp2;go_ret3
    exact⟨by rw[<-HEX.out];rfl,1,rfl⟩
theorem Es(y:Int)(hy:0<=y/\y<=100000)(w:World):Calls Tryz.prog 403 #[.int .i64 y] w λe w'=>e=.returned (.bool (wj y))/\w'=w:=by
 have e4:y.tmod 4=y % 4:=uS hy.1;have e100:y.tmod 100=y % 100:=uS hy.1;have e400:y.tmod 400=y % 400:=uS hy.1;obtain⟨R,hR⟩:=aH (wj y);rw[hR];unfold wj at hR;have HR:=ah hR;clear hR;by_cases h4:y % 4=0
 ·by_cases h100:y % 100=0
  ·by_cases TP:y % 400=0
   ·have hx:R=true:=by rw[<-HR.out];simp[h4,h100,TP]
    subst hx;clear HR;go_enter Tryz.func403,Tryz.ntmps403
    go_wp2;go_ret;exact⟨rfl,rfl⟩
   ·have hx:R=false:=by rw[<-HR.out];simp[h4,h100,TP]
    subst hx;clear HR;go_enter Tryz.func403,Tryz.ntmps403
    go_wp2;go_ret;exact⟨by first|rfl|simp[TP],rfl⟩
  ·have hx:R=true:=by rw[<-HR.out];simp[h4,h100]
   subst hx;clear HR;go_enter Tryz.func403,Tryz.ntmps403
   go_wp2;go_ret;exact⟨by first|rfl|simp[h100],rfl⟩
 ·have TP:¬y % 400=0:=by omega
  have hx:R=false:=by rw[<-HR.out];simp[h4,TP]
  subst hx;clear HR;go_enter Tryz.func403,Tryz.ntmps403
  go_wp2;go_ret;exact⟨by first|rfl|simp[TP],rfl⟩
theorem vJ(y m:Int)(hy:0<=y/\y<=100000)(w:World):Calls Tryz.prog 358 #[.int .i64 y,.int .i64 m] w λe w'=>e=.returned (.int .i64 (gX y m))/\w'=w:=by
 by_cases h2:m=2
 ·subst h2;have hx:gX y 2=if wj y=true then 29 else 28:=by unfold gX;rw[if_pos rfl]
  have k:=Es y hy w;rw[hx];generalize wj y=b at*;have K:=ah k;clear k hx
  cases b
  ·go_enter Tryz.func358,Tryz.ntmps358
   go_wp2_with fail
   refine K.out.mono ?_;rintro e w1 ⟨rfl,rfl⟩;go_wp2;go_ret;exact⟨rfl,rfl⟩
  ·go_enter Tryz.func358,Tryz.ntmps358
   go_wp2_with fail
   refine K.out.mono ?_;rintro e w1 ⟨rfl,rfl⟩;go_wp2;go_ret;exact⟨rfl,rfl⟩
 ·by_cases h4:m=4\/m=6\/m=9\/m=11
  ·have hx:gX y m=30:=by unfold gX;rw[if_neg h2,if_pos h4]
   rw[hx];clear hx h2;rcases h4 with rfl|rfl|rfl|rfl
   all_goals
    go_enter Tryz.func358,Tryz.ntmps358
    go_wp2;go_ret;exact⟨rfl,rfl⟩
  ·have hx:gX y m=31:=by unfold gX;rw[if_neg h2,if_neg h4]
   rw[hx];have n4:¬m=4:=λh=>h4 (by simp[h])
   have n6:¬m=6:=λh=>h4 (by simp[h])
   have n9:¬m=9:=λh=>h4 (by simp[h])
   have n11:¬m=11:=λh=>h4 (by simp[h])
   clear hx h4;go_enter Tryz.func358,Tryz.ntmps358
   go_wp2;go_ret;exact⟨rfl,rfl⟩
theorem oz(y:Int)(hy:1970<=y/\y<=100000)(w:World):Calls Tryz.prog 359 #[.int .i64 y] w λe w'=>e=.returned (.int .i64 (dQ y))/\w'=w:=by
 obtain⟨R,hR⟩:=aH (dQ y);rw[hR];unfold dQ at hR;have e1:(y-1).tdiv 4=(y-1) / 4:=Int.tdiv_eq_ediv_of_nonneg (by omega);have e2:(y-1).tdiv 100=(y-1) / 100:=Int.tdiv_eq_ediv_of_nonneg (by omega);have e3:(y-1).tdiv 400=(y-1) / 400:=Int.tdiv_eq_ediv_of_nonneg (by omega);have w0:IntKind.i64.wrap (y-1)=y-1:=by rw[b_];omega
 have w1:IntKind.i64.wrap (y-1970)=y-1970:=by rw[b_];omega
 have w2:IntKind.i64.wrap (365*(y-1970))=365*(y-1970):=by rw[b_];omega
 obtain⟨a,ha⟩:=aH ((y-1) / 4);obtain⟨b,hb⟩:=aH ((y-1) / 100);obtain⟨c,hc⟩:=aH ((y-1) / 400);rw[ha]at e1 hR;rw[hb]at e2 hR;rw[hc]at e3 hR;have u1:IntKind.i64.wrap a=a:=by rw[b_];omega
 have u2:IntKind.i64.wrap b=b:=by rw[b_];omega
 have u3:IntKind.i64.wrap c=c:=by rw[b_];omega
 have v1:IntKind.i64.wrap (365*(y-1970)+a)=365*(y-1970)+a:=by rw[b_];omega
 have v2:IntKind.i64.wrap (365*(y-1970)+a-b)=365*(y-1970)+a-b:=by rw[b_];omega
 have v3:IntKind.i64.wrap (365*(y-1970)+a-b+c)=365*(y-1970)+a-b+c:=by rw[b_];omega
 have v4:IntKind.i64.wrap (365*(y-1970)+a-b+c-492)=365*(y-1970)+a-b+c-492:=by rw[b_];omega
 have v5:IntKind.i64.wrap (365*(y-1970)+a-b+c-492+19)=365*(y-1970)+a-b+c-492+19:=by rw[b_];omega
 have v6:IntKind.i64.wrap (365*(y-1970)+a-b+c-492+19-4)=365*(y-1970)+a-b+c-492+19-4:=by rw[b_];omega
 have HR:=ah hR;clear ha hb hc hR;rw[<-HR.out];go_enter Tryz.func359,Tryz.ntmps359
 go_wp2;go_ret;exact⟨rfl,rfl⟩
theorem Fq(d:Int)(hd:0<=d/\d<=3000000)(w:World):Calls Tryz.prog 357 #[.int .i64 d] w λe w'=>e=.returned (.tuple #[.int .i64 (lO d).1,.int .i64 (lO d).2])/\w'=w:=by
 obtain⟨R,hR⟩:=aH (kG 9000 d (1970+d / 366));have hO:lO d=(R,d-dQ R):=by unfold lO;rw[hR]
 rw[hO];have e1:d.tdiv 366=d / 366:=Int.tdiv_eq_ediv_of_nonneg hd.1;obtain⟨a,ha⟩:=aH (d / 366);rw[ha]at e1 hR;have Rj:0<=a/\a<=9000:=by omega
 have w0:IntKind.i64.wrap a=a:=by rw[b_];omega
 have w1:IntKind.i64.wrap (1970+a)=1970+a:=by rw[b_];omega
 have Xg:dQ (1970+a)<=d:=by have:=(jy (1970+a) (by omega)).2;omega
 have HR:=ah hR;have HI:=ah Xg;clear hR ha hO Xg;go_enter Tryz.func357,Tryz.ntmps357
 go_wp2_with fail
 go_loopw [2] (λv wr=>∃(y:Int) (f:Nat),v=.int .i64 y/\1970<=y/\y<=90000/\Hid (dQ y<=d)/\Hid (kG f d y=R)/\Hid (d<365*(y-1970)+365*f)/\wr=w) (λv _=>100000-(o9 v).toNat)
 case atStart=>exact⟨1970+a,9000,rfl,by omega,by omega,HI,HR,am (by omega),rfl⟩
 case round=>
  obtain⟨y,f,rfl,Yw,RH,HA,HY,HF,rfl⟩:=hrel;have hy3:y<=12000:=by have:=(jy y Yw).1;have:=HA.out;omega
  have k1:=oz (y+1) (by omega) wr;have k2:=oz y (by omega) wr;have w2:IntKind.i64.wrap (y+1)=y+1:=by rw[b_];omega
  have ZT:=jy y Yw;have hge1:=jy (y+1) (by omega);by_cases hle:dQ (y+1)<=d
  ·have Tj:∃f',kG f' d (y+1)=R/\d<365*(y+1-1970)+365*f':=by
    cases f with
    |zero=>have:=HF.out;omega
    |succ f=>
     refine⟨f,?_,by have:=HF.out;omega⟩;have:=HY.out;rw[kG,if_pos hle]at this;exact this
   obtain⟨f',XL,TO⟩:=Tj;have HN:=ah (aB XL (aB TO hle));have t1:decide (dQ (y+1)<=d)=true:=by simpa using hle
   have K1:=ah k1;clear k1 k2 ZT hge1 XL TO hle HY HF;go_wp2_with fail
   refine K1.out.mono ?_;rintro e w1 ⟨rfl,rfl⟩;go_wp2;go_roundw
   case rel=>exact⟨y+1,f',rfl,by omega,by omega,am HN.out.2.2,am HN.out.1,am HN.out.2.1,trivial⟩
   case measure=>simp[o9];omega
  ·have hyR:y=R:=by
    have:=HY.out
    cases f with
    |zero=>exact this
    |succ f=>rw[kG,if_neg hle]at this;exact this
   subst hyR;have t1:decide (dQ (y+1)<=d)=false:=by simpa using hle
   have w3:IntKind.i64.wrap (d-dQ y)=d-dQ y:=by rw[b_];omega
   have K1:=ah k1;have K2:=ah k2;clear k1 k2 ZT hge1 hle HY HF;go_wp2_with fail
   refine K1.out.mono ?_;rintro e w1 ⟨rfl,rfl⟩;go_wp2_with fail
   refine K2.out.mono ?_;rintro e w1 ⟨rfl,rfl⟩;go_wp2;go_ret2
   exact⟨rfl,rfl⟩
def d9(w:World):Prop:=cq w/\6<w.heap.size/\Lib.TabIs Tryz.prog w "strings.asciiSpace" .u8 Lib.asciiSpaceTab
theorem Gw{P:Program}{name:String}{k:IntKind}{zs:List Int}{g:Nat}(hg:P.globalNamed name=some g)(h:Lib.TabIs P w name k zs)(hb:w'.heap[g]?=w.heap[g]?):Lib.TabIs P w' name k zs:=by unfold Lib.TabIs World.var? at*;rw[hg]at h ⊢;simp only[Option.bind_some]at h ⊢;rw[hb];exact h
theorem d9.below(h:d9 w)(hb:Below w.heap.size w w'):d9 w':=⟨h.1.below hb,bE h.2.1 hb.size,Gw (g:=6) (by kernel_rfl) h.2.2 (hb.block _ h.2.1)⟩
def Ly:ByteArray:=Ln
theorem ym:Lib.fields Ly.data.toList=dN:=by decide +kernel
theorem wg(w:World)(h:d9 w):Calls Tryz.prog 355 #[.string Ln] w λe w'=>e=.returned (.slice (some ⟨w.heap.size,0,none⟩) 7 7)/\Rd (some ⟨w.heap.size,0,none⟩) 7 1 (aF dN) w'/\Below w.heap.size w w':=by
 have k:=Tryz.strings_Fields Ly w (by decide) (by
  intro j b hb;have:=List.mem_of_getElem? hb;have NY:(Ly.data.toList.all λb=>decide (b.toNat<128))=true:=by decide +kernel
  simpa using dH.1 NY b this) h.2.2
 rw[ym]at k;refine k.mono ?_;rintro e w' ⟨rfl,rfl⟩;refine⟨rfl,⟨rfl,λ_=>⟨_,0,rfl,by simp,λj u hu=>?_⟩⟩,(aO _ w).alloc (aw _) _⟩;rw[iq,cK];simpa[aF]using hu
theorem CV(s:ByteArray)(b c:Nat)(w:World)(hr:Rd (some ⟨b,0,none⟩) 7 1 (aF dN) w):Calls Tryz.prog 354 #[.string s,.slice (some ⟨b,0,none⟩) 7 c,.int .i64 0] w λe w'=>e=.returned (.tuple #[.int .i64 (ec s.data.toList 0 dN 0).1,.string ⟨(ec s.data.toList 0 dN 0).2.1.toArray⟩,.bool (ec s.data.toList 0 dN 0).2.2])/\w'=w:=by
 obtain⟨R,hR⟩:=aH (ec s.data.toList 0 dN 0);rw[hR];have hlen:∀x∈dN,3<=x.length:=by decide
 have XA:dN.length=7:=rfl;obtain⟨HR,St,Ox,HL7⟩:=bK hR hr hlen XA;clear hR hr hlen XA;generalize dN=ls at*;go_enter Tryz.func354,Tryz.ntmps354
 go_wp2_with fail
 go_loopw [15] (λi wr=>∃j:Nat,j<=7/\i=.int .i64 j/\Hid (ec s.data.toList 0 (ls.drop j) j=R)/\wr=w) (λi _=>7-(o9 i).toNat)
 case atStart=>exact⟨0,a_ _,rfl,HR,rfl⟩
 case round=>
  obtain⟨j,hj,rfl,HD,rfl⟩:=hrel;by_cases hj7:j<7
  ·have Qd:j<ls.length:=by rw[HL7.out];exact hj7
   obtain⟨b',o',e,_,d0⟩:=St.out.str_at Qd
   cases e
   have h3:=Ox.out ls[j] (bQ Qd);have QC:ls.drop j=ls[j]::ls.drop (j+1):=tu Qd;have hD:=HD.out;rw[QC,ec]at hD;generalize ls[j]=x at*;obtain⟨o,rfl⟩:∃o:ByteArray,x=o.data.toList:=⟨⟨x.toArray⟩,by simp⟩;rw[bN,iq]at d0;have i2:IntKind.i64.wrap ((j:Int)+1)=((j+1:Nat):Int):=by rw[b_];omega
   have j1:IntKind.i64.wrap (j:Int)=j:=by rw[b_];omega
   simp only[Nat.lt_irrefl,decide_false,cond_false]at hD;have k1:=Tryz.strings_CutPrefix s o wr
   cases hp:Lib.hasPrefix s.data.toList o.data.toList
   ·rw[hp]at hD k1;simp only[cond_false]at hD;have So:=ah hD;have K1:=ah k1;clear hD k1 QC h3 Qd hp HD;go_wp2_with fail
    refine K1.out.mono ?_;rintro e w1 ⟨rfl,rfl⟩;go_wp2;go_roundw
    case rel=>exact⟨j+1,hj7,rfl,So,trivial⟩
    case measure=>simp[o9];omega
   ·rw[hp]at hD k1;simp only[cond_true]at hD;have VY:Lib.trimPrefix s.data.toList o.data.toList=s.data.toList.drop o.data.toList.length:=by unfold Lib.trimPrefix;rw[hp];rfl
    rw[VY]at k1;have So:=ah hD;have K1:=ah k1;clear hD k1 QC h3 Qd hp HD VY;go_wp2_with fail
    refine K1.out.mono ?_;rintro e w1 ⟨rfl,rfl⟩;go_wp2;go_ret3
    exact⟨by rw[<-So.out];rfl,rfl⟩
  ·have Uk:j=7:=by omega
   subst Uk;have hD:=HD.out;rw[List.drop_eq_nil_of_le (by rw[HL7.out];exact aw _),ec]at hD;have So:=ah hD;clear hD;go_wp2;go_ret3
   exact⟨by rw[<-So.out];rfl,rfl⟩
theorem Cz(s:ByteArray)(b c:Nat)(w:World)(hr:Rd (some ⟨b,0,none⟩) 7 1 (aF dN) w):Calls Tryz.prog 354 #[.string s,.slice (some ⟨b,0,none⟩) 7 c,.int .i64 3] w λe w'=>e=.returned (.tuple #[.int .i64 (ec s.data.toList 3 dN 0).1,.string ⟨(ec s.data.toList 3 dN 0).2.1.toArray⟩,.bool (ec s.data.toList 3 dN 0).2.2])/\w'=w:=by
 obtain⟨R,hR⟩:=aH (ec s.data.toList 3 dN 0);rw[hR];have hlen:∀x∈dN,3<=x.length:=by decide
 have XA:dN.length=7:=rfl;obtain⟨HR,St,Ox,HL7⟩:=bK hR hr hlen XA;clear hR hr hlen XA;generalize dN=ls at*;go_enter Tryz.func354,Tryz.ntmps354
 go_wp2_with fail
 go_loopw [15] (λi wr=>∃j:Nat,j<=7/\i=.int .i64 j/\Hid (ec s.data.toList 3 (ls.drop j) j=R)/\wr=w) (λi _=>7-(o9 i).toNat)
 case atStart=>exact⟨0,a_ _,rfl,HR,rfl⟩
 case round=>
  obtain⟨j,hj,rfl,HD,rfl⟩:=hrel;by_cases hj7:j<7
  ·have Qd:j<ls.length:=by rw[HL7.out];exact hj7
   obtain⟨b',o',e,_,d0⟩:=St.out.str_at Qd
   cases e
   have h3:=Ox.out ls[j] (bQ Qd);have QC:ls.drop j=ls[j]::ls.drop (j+1):=tu Qd;have hD:=HD.out;rw[QC,ec]at hD;generalize ls[j]=x at*;obtain⟨o,rfl⟩:∃o:ByteArray,x=o.data.toList:=⟨⟨x.toArray⟩,by simp⟩;rw[bN,iq]at d0;have i2:IntKind.i64.wrap ((j:Int)+1)=((j+1:Nat):Int):=by rw[b_];omega
   have j1:IntKind.i64.wrap (j:Int)=j:=by rw[b_];omega
   have TC:decide (0<3)=true:=rfl;simp only[TC,cond_true]at hD;have hex:(o.extract 0 3).data.toList=o.data.toList.take 3:=by rw[eD];simp
   have k1:=Tryz.strings_CutPrefix s (o.extract 0 3) wr;rw[hex]at k1;have QD:(o.data.toList.take 3).length=3:=by rw[dm];omega
   rw[QD]at hD;have h3s:3<=o.size:=by rw[aY];exact h3
   cases hp:Lib.hasPrefix s.data.toList (o.data.toList.take 3)
   ·rw[hp]at hD k1;simp only[cond_false]at hD;have So:=ah hD;have K1:=ah k1;clear hD k1 QC h3 Qd hp HD hex QD;go_wp2_with fail
    refine K1.out.mono ?_;rintro e w1 ⟨rfl,rfl⟩;go_wp2;go_roundw
    case rel=>exact⟨j+1,hj7,rfl,So,trivial⟩
    case measure=>simp[o9];omega
   ·rw[hp]at hD k1;simp only[cond_true]at hD;have VY:Lib.trimPrefix s.data.toList (o.data.toList.take 3)=s.data.toList.drop (o.data.toList.take 3).length:=by unfold Lib.trimPrefix;rw[hp];rfl
    rw[VY,QD]at k1;have So:=ah hD;have K1:=ah k1;clear hD k1 QC h3 Qd hp HD VY hex QD;go_wp2_with fail
    refine K1.out.mono ?_;rintro e w1 ⟨rfl,rfl⟩;go_wp2;go_ret3
    exact⟨by rw[<-So.out];rfl,rfl⟩
  ·have Uk:j=7:=by omega
   subst Uk;have hD:=HD.out;rw[List.drop_eq_nil_of_le (by rw[HL7.out];exact aw _),ec]at hD;have So:=ah hD;clear hD;go_wp2;go_ret3
   exact⟨by rw[<-So.out];rfl,rfl⟩
end Go.Proofs.YtdbjnlkbhhebbaaGreatDoor
