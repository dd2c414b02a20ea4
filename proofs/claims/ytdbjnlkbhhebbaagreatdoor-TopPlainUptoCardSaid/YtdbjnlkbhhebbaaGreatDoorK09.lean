/- Quote, Said, KpRow, OwnD, Each, Met, Names, Obt3, Sur1, Sur2, DList, Say, RFind, Find, RDList, JoinsD, SurSaid, ManyD. -/
import Derived.Test.YtdbjnlkbhhebbaaGreatDoorK01
import Derived.Test.YtdbjnlkbhhebbaaGreatDoorK02
import Derived.Test.YtdbjnlkbhhebbaaGreatDoorK05
import Derived.Test.YtdbjnlkbhhebbaaGreatDoorK06
import Derived.Test.YtdbjnlkbhhebbaaGreatDoorK08
import Derived.Laws.ResultCell
import Derived.RangeFuncWrites
import Derived.Laws.Entries
import Derived.RangeFuncNested
import Derived.RangeFuncBound
import Derived.RangeFuncCalls
import Derived.RangeFuncLeaves
import Derived.RangeFuncBox
import Derived.Shelf.Abstract
import Derived.Shelf.RegionOpen
import Derived.OwnWalkIn
import Derived.TacticsInMore
import Derived.LoopNIn
import Derived.LoopIn
import Derived.Maps.Own
import Derived.Maps.OwnOps
import Derived.Maps.OwnSet
import Derived.Maps.Views
import Derived.Maps.StringElems
import Derived.StillTailTactics
import Derived.Maps.AppendAt
import Derived.Laws.BytesArg
import Derived.Deep.RegionHeld3
import Derived.Deep.OwnRows
import Derived.IntWalk
import Derived.ArgAppend
import Derived.Laws.OwnMore
set_option maxRecDepth 100000
set_option maxHeartbeats 16000000
set_option linter.all false
namespace Go.Proofs.YtdbjnlkbhhebbaaGreatDoor
open Go.RowKit
open Go.RowKit Go.ChangeShapes Go.WideShapes
open Go.RowKit Go.Shelf
open Go.RowKit Go.WideMaps Go.Maps
theorem iK(c:UInt8)(w:World):Calls Tryz.prog 275 #[.int .u8 c.toNat] w λe w'=>e=.returned (.bool (pV c))/\w=w':=by
 have Nc:=c.toNat_lt
 have hp:pV c=(((c.toNat:Int)==9)||(decide (32<=(c.toNat:Int))&&((c.toNat:Int)!=127))):=by unfold pV;rw[jj];simp;omega
 rw[hp];clear hp;generalize c.toNat=n at*
 cases h1:((n:Int)==9)<;>cases h2:decide (32<=(n:Int))<;>cases h3:((n:Int)!=127)
 all_goals
  go_enter Tryz.func275,Tryz.ntmps275
  go_wp2;go_ret;exact⟨rfl,rfl⟩
theorem JK(w:World):lL w.heap.size w.heap.size [] (w.alloc Ab):=Lib.IsBuilderF.of (Lib.fresh_isBuilder 251 5 w)
def Lj(s:ByteArray):ByteArray:=s.extract 1 (s.size-1)
theorem GT(s:ByteArray):(Lj s).data.toList=(s.data.toList.drop 1).dropLast:=by unfold Lj;rw[eD,List.dropLast_eq_take,gH,<-aY]
theorem Ge(s:ByteArray):(Lj s).size=s.size-2:=by unfold Lj;simp[eu];omega
theorem Lv(s:ByteArray)(k:Nat)(h:k<(Lj s).size)(h':k+1<s.size):(Lj s)[k]=s[k+1]:=by
 have key:∀(t:ByteArray)(_:t=s.extract 1 (s.size-1))(hk:k<t.size),t[k]=s[k+1]:=by intro t ht hk;subst ht;simp[ByteArray.getElem_extract,Nat.add_comm]
 exact key _ rfl h
theorem Ji(s:ByteArray)(h:2<=s.size)(h0:s[0].toNat=34)(h1:s[s.size-1].toNat=34):mG s.data.toList=tJ false (Lj s).data.toList:=by
 have e1:s.data.toList.head?=some s[0]:=by rw[List.head?_eq_getElem?,lx (by simpa using(by omega:0<s.size))];rfl
 have e2:s.data.toList.getLast?=some s[s.size-1]:=by rw[List.getLast?_eq_getElem?,<-aY,lx (by simpa using(by omega:s.size-1<s.size))];rfl
 unfold mG;rw[e1,e2,GT,<-aY];simp[h,h0,h1]
theorem Cr(s:ByteArray)(h:s.size<2):mG s.data.toList=none:=by
 unfold mG;rw[<-aY];have:decide (2<=s.size)=false:=by simp;omega
 rw[this];rfl
theorem Ch(s:ByteArray)(h:2<=s.size)(h0:¬s[0].toNat=34):mG s.data.toList=none:=by
 have e1:s.data.toList.head?=some s[0]:=by rw[List.head?_eq_getElem?,lx (by simpa using(by omega:0<s.size))];rfl
 have e2:(s[0].toNat==34)=false:=by simpa using h0
 unfold mG;rw[e1];simp only[Option.getD_some,e2,jU,gN,cond_false]
theorem D_(s:ByteArray)(h:2<=s.size)(h1:¬s[s.size-1].toNat=34):mG s.data.toList=none:=by
 have e2:s.data.toList.getLast?=some s[s.size-1]:=by rw[List.getLast?_eq_getElem?,<-aY,lx (by simpa using(by omega:s.size-1<s.size))];rfl
 have e3:(s[s.size-1].toNat==34)=false:=by simpa using h1
 unfold mG;rw[e2];simp only[Option.getD_some,e3,jU,cond_false]
theorem Ad(s:ByteArray)(w:World)(hs:s.size<=1000000):Calls Tryz.prog 204 #[.string s] w λe w'=>e=.returned (two (mG s.data.toList))/\Below w.heap.size w w':=by
 by_cases h2:2<=s.size
 ·by_cases h0:s[0].toNat=34
  ·by_cases h1:s[s.size-1].toNat=34
   ·rw[Ji s h2 h0 h1];have T9:=Ge s;have d0:((s[0].toNat:Int)!=34)=false:=by simp;omega
    have d1:((s[s.size-1].toNat:Int)!=34)=false:=by simp;omega
    have d2:decide ((s.size:Int)<2)=false:=by simp;omega
    clear h0 h1;obtain⟨m,hm⟩:=aH (Lj s);have PB:∀k(h:k<m.size)(h':k+1<s.size),m[k]=s[k+1]:=by intro k h h';subst hm;exact Lv s k h h'
    rw[hm]at T9 ⊢;obtain⟨out,ho⟩:=aH (tJ false m.data.toList);rw[ho];obtain⟨HO,HA,HM⟩:=bu ho PB T9;clear ho PB hm T9;go_enter Tryz.func204,Tryz.ntmps204
    go_wp2;clear d0 d1 d2;go_loopw [27,5] (λi b wr=>∃(k:Nat) (bh:Bool) (acc:List UInt8),k<=s.size-2/\i=.int .i64 k/\b=.bool bh/\Hid (out=(tJ bh (m.data.toList.drop k)).map (acc++·))/\acc.length<=k/\lL w.heap.size w.heap.size acc wr/\Below w.heap.size w wr) (λi _ _=>s.size-2-(intOf i).toNat)
    case atStart=>exact⟨0,false,[],a_ _,rfl,rfl,by have:=HO.out;show _=_;rw[na,this];simp,by simp,JK w,(aO _ w).alloc (aw _) _⟩
    case round=>
     obtain⟨k,bh,acc,hk,rfl,rfl,Sb,Rx,hI,M_⟩:=hrel;by_cases Nc:k<s.size-2
     ·have hkm:k<m.size:=by have:=HM.out;omega
      have hc:=HA.out k hkm (by omega);have hd:=nE m k hkm;rw[hc]at hd;have Hd:=ah hd;clear hd hc hkm;have QF:k+1<s.size:=by omega
      cases hp:pV s[k+1]
      ·have hf:out=none:=by rw[Sb.out,Hd.out,tJ,hp];rfl
       obtain⟨Hf,Hp⟩:=az hf hp;clear hf hp;go_wp2_with (go_at_call 275;refine(iK _ _).mono ?_;rintro e w2 ⟨rfl,rfl⟩;rw[Hp.out])
       go_ret2
       exact⟨by rw[Hf.out];rfl,M_⟩
      ·cases c1:((s[k+1].toNat:Int)==34)<;>cases c2:((s[k+1].toNat:Int)==92)
       all_goals have d1:(s[k+1].toNat==34)=_:=(fH _ 34).trans c1
       all_goals have d2:(s[k+1].toNat==92)=_:=(fH _ 92).trans c2
       all_goals have D1:=am d1
       all_goals have D2:=am d2
       all_goals clear d1 d2
       ·cases bh
        ·have hf:out=(tJ false (m.data.toList.drop (k+1))).map ((acc++[s[k+1]])++·):=by rw[Sb.out,Hd.out,tJ,hp,D1.out,D2.out];simp[Function.comp_def]
         obtain⟨Hf,Hp⟩:=az hf hp;clear hf hp;go_wp2_with (go_at_call 275;refine(iK _ _).mono ?_;rintro e w2 ⟨rfl,rfl⟩;rw[Hp.out])
         refine(ge w.heap.size w.heap.size _ s[k+1] _ hI (by omega) M_.size).mono ?_;rintro e w3 ⟨rfl,Qb,b3,-⟩;go_wp2;go_roundw
         case rel=>exact⟨k+1,false,_,by omega,by go_num,rfl,Hf,by rw[bP,dM];omega,Qb,M_.trans b3⟩
         case measure=>simp[intOf];omega
        ·have hf:out=(tJ false (m.data.toList.drop (k+1))).map ((acc++[s[k+1]])++·):=by rw[Sb.out,Hd.out,tJ,hp,D1.out,D2.out];simp[Function.comp_def]
         obtain⟨Hf,Hp⟩:=az hf hp;clear hf hp;go_wp2_with (go_at_call 275;refine(iK _ _).mono ?_;rintro e w2 ⟨rfl,rfl⟩;rw[Hp.out])
         refine(ge w.heap.size w.heap.size _ s[k+1] _ hI (by omega) M_.size).mono ?_;rintro e w3 ⟨rfl,Qb,b3,-⟩;go_wp2;go_roundw
         case rel=>exact⟨k+1,false,_,by omega,by go_num,rfl,Hf,by rw[bP,dM];omega,Qb,M_.trans b3⟩
         case measure=>simp[intOf];omega
       ·cases bh
        ·have hf:out=(tJ true (m.data.toList.drop (k+1))).map (acc++·):=by rw[Sb.out,Hd.out,tJ,hp,D1.out,D2.out];rfl
         obtain⟨Hf,Hp⟩:=az hf hp;clear hf hp;go_wp2_with (go_at_call 275;refine(iK _ _).mono ?_;rintro e w2 ⟨rfl,rfl⟩;rw[Hp.out])
         go_roundw
         case rel=>exact⟨k+1,true,acc,by omega,by go_num,rfl,Hf,by omega,hI,M_⟩
         case measure=>simp[intOf];omega
        ·have hf:out=(tJ false (m.data.toList.drop (k+1))).map ((acc++[s[k+1]])++·):=by rw[Sb.out,Hd.out,tJ,hp,D1.out,D2.out];simp[Function.comp_def]
         obtain⟨Hf,Hp⟩:=az hf hp;clear hf hp;go_wp2_with (go_at_call 275;refine(iK _ _).mono ?_;rintro e w2 ⟨rfl,rfl⟩;rw[Hp.out])
         refine(ge w.heap.size w.heap.size _ s[k+1] _ hI (by omega) M_.size).mono ?_;rintro e w3 ⟨rfl,Qb,b3,-⟩;go_wp2;go_roundw
         case rel=>exact⟨k+1,false,_,by omega,by go_num,rfl,Hf,by rw[bP,dM];omega,Qb,M_.trans b3⟩
         case measure=>simp[intOf];omega
       ·cases bh
        ·have hf:out=none:=by rw[Sb.out,Hd.out,tJ,hp,D1.out];rfl
         obtain⟨Hf,Hp⟩:=az hf hp;clear hf hp;go_wp2_with (go_at_call 275;refine(iK _ _).mono ?_;rintro e w2 ⟨rfl,rfl⟩;rw[Hp.out])
         go_ret2
         exact⟨by rw[Hf.out];rfl,M_⟩
        ·have hf:out=(tJ false (m.data.toList.drop (k+1))).map ((acc++[s[k+1]])++·):=by rw[Sb.out,Hd.out,tJ,hp,D1.out,D2.out];simp[Function.comp_def]
         obtain⟨Hf,Hp⟩:=az hf hp;clear hf hp;go_wp2_with (go_at_call 275;refine(iK _ _).mono ?_;rintro e w2 ⟨rfl,rfl⟩;rw[Hp.out])
         refine(ge w.heap.size w.heap.size _ s[k+1] _ hI (by omega) M_.size).mono ?_;rintro e w3 ⟨rfl,Qb,b3,-⟩;go_wp2;go_roundw
         case rel=>exact⟨k+1,false,_,by omega,by go_num,rfl,Hf,by rw[bP,dM];omega,Qb,M_.trans b3⟩
         case measure=>simp[intOf];omega
       ·exfalso;simp at c1 c2;omega
     ·have hf:out=bif bh then none else some acc:=by
       rw[Sb.out,mP m k (by have:=HM.out;omega),tJ];cases bh<;>simp
      have Hf:=ah hf;clear hf
      cases bh
      ·go_wp2_with (go_at_call 157;refine(Tryz.Builder_String_any_k w.heap.size w.heap.size _ _ hI M_.size).mono ?_;rintro e w3 ⟨rfl,_,b3,_⟩)
       go_ret2
       exact⟨by rw[Hf.out];rfl,M_.trans b3⟩
      ·go_wp2;go_ret2
       exact⟨by rw[Hf.out];rfl,M_⟩
   ·rw[D_ s h2 h1];have d1:((s[s.size-1].toNat:Int)!=34)=true:=by simp;omega
    have d0:((s[0].toNat:Int)!=34)=false:=by simp;omega
    have d2:decide ((s.size:Int)<2)=false:=by simp;omega
    clear h0 h1;go_enter Tryz.func204,Tryz.ntmps204
    go_wp2;go_ret2
    exact⟨rfl,aO _ _⟩
  ·rw[Ch s h2 h0];have d0:((s[0].toNat:Int)!=34)=true:=by simp;omega
   have d2:decide ((s.size:Int)<2)=false:=by simp;omega
   clear h0;go_enter Tryz.func204,Tryz.ntmps204
   go_wp2;go_ret2
   exact⟨rfl,aO _ _⟩
 ·rw[Cr s (by omega)];have d2:decide ((s.size:Int)<2)=true:=by simp;omega
  clear h2;go_enter Tryz.func204,Tryz.ntmps204
  go_wp2;go_ret2
  exact⟨rfl,aO _ _⟩
theorem sK(s sep:List UInt8):(Lib.cut s sep).1.length<=s.length/\(Lib.cut s sep).2.1.length<=s.length:=by
 unfold Lib.cut;by_cases h0:0<=Lib.index s sep
 ·rw[if_pos h0];simp;omega
 ·rw[if_neg h0];simp
def nT:Option da->Value
 |none=>.tuple #[.agg #[.string ⟨#[]⟩,.string ⟨#[]⟩,.bool false,.string ⟨#[]⟩],.bool false]
 |some d=>.tuple #[.agg #[.string ⟨d.name.toArray⟩,.string ⟨d.value.toArray⟩,.bool d.has,.string ⟨d.for_.toArray⟩],.bool true]
theorem AX(s:ByteArray)(w:World)(hM:cq w)(hs:s.size<=1000000):Calls Tryz.prog 147 #[.string s] w λe w'=>e=.returned (nT (dZ s.data.toList))/\Below w.heap.size w w':=by
 obtain⟨W0,Nb⟩:=bg w lB;have Nm:=bm Nb;have z0:w.heap.size<W0.heap.size:=by rw[<-Nb];simp
 have hc:∀j,W0.cell? ⟨w.heap.size,j,none⟩=#[Value.string ⟨#[]⟩,.string ⟨#[]⟩,.bool false,.string ⟨#[]⟩][j]?:=λj=>by rw[<-Nb];exact cK w _ _ _ j
 have hf:∀j,W0.frozen? ⟨w.heap.size,j,none⟩=false:=λj=>by rw[<-Nb];exact World.frozen?_alloc_at _ _ _ _ rfl
 have kc:∀w',Below W0.heap.size W0 w'->Below w.heap.size w w'/\w'.cell? ⟨w.heap.size,0,none⟩=some (.string ⟨#[]⟩)/\w'.cell? ⟨w.heap.size,1,none⟩=some (.string ⟨#[]⟩)/\w'.cell? ⟨w.heap.size,2,none⟩=some (.bool false)/\w'.cell? ⟨w.heap.size,3,none⟩=some (.string ⟨#[]⟩)/\w'.frozen? ⟨w.heap.size,0,none⟩=false/\w'.frozen? ⟨w.heap.size,1,none⟩=false/\w'.frozen? ⟨w.heap.size,2,none⟩=false/\w'.frozen? ⟨w.heap.size,3,none⟩=false/\w.heap.size<w'.heap.size:=λw' h=>⟨Nm.trans (h.mono Nm.size),(h.cell (p:=⟨w.heap.size,0,none⟩) z0).trans (hc 0),(h.cell (p:=⟨w.heap.size,1,none⟩) z0).trans (hc 1),(h.cell (p:=⟨w.heap.size,2,none⟩) z0).trans (hc 2),(h.cell (p:=⟨w.heap.size,3,none⟩) z0).trans (hc 3),(h.frozen (p:=⟨w.heap.size,0,none⟩) z0).trans (hf 0),(h.frozen (p:=⟨w.heap.size,1,none⟩) z0).trans (hf 1),(h.frozen (p:=⟨w.heap.size,2,none⟩) z0).trans (hf 2),(h.frozen (p:=⟨w.heap.size,3,none⟩) z0).trans (hf 3),bE z0 h.size⟩
 have k1:=iL s ⟨#[61]⟩ W0 (hM.below Nm) hs;rw[show(⟨#[61]⟩:ByteArray).data.toList=[61]from rfl]at k1;have hl:=sK s.data.toList [61];rw[<-aY]at hl
 have ho:dZ s.data.toList=bif !be (Lib.cut s.data.toList [61]).1 then none
  else bif(Lib.cut s.data.toList [61]).2.2&&!be (Lib.cut s.data.toList [61]).2.1 then(mG (Lib.cut s.data.toList [61]).2.1).map λs2=>⟨ai (Lib.cut s.data.toList [61]).1,s2,true,[]⟩
  else some ⟨ai (Lib.cut s.data.toList [61]).1,(Lib.cut s.data.toList [61]).2.1,(Lib.cut s.data.toList [61]).2.2,[]⟩:=rfl
 generalize Lib.cut s.data.toList [61]=c at*;obtain⟨nm,v,has⟩:=c;obtain⟨nm,rfl⟩:∃o:ByteArray,nm=o.data.toList:=⟨⟨nm.toArray⟩,rfl⟩;obtain⟨v,rfl⟩:∃o:ByteArray,v=o.data.toList:=⟨⟨v.toArray⟩,rfl⟩;simp only[bN,<-aY]at k1 hl ho;obtain⟨Rv,Nq⟩:=hl;have k2:=λw=>fR nm w (by omega)
 have k3:=λw=>fR v w (by omega)
 have k4:=λw=>ju nm w (by omega)
 have k5:=λw=>Ad v w (by omega)
 obtain⟨ln,SH⟩:=aH (⟨(ai nm.data.toList).toArray⟩:ByteArray);rw[SH]at k4
 have hV:nT (dZ s.data.toList)=bif !be nm.data.toList then .tuple #[.agg #[.string ⟨#[]⟩,.string ⟨#[]⟩,.bool false,.string ⟨#[]⟩],.bool false]else bif has&&!be v.data.toList then(match mG v.data.toList with|none=>.tuple #[.agg #[.string ⟨#[]⟩,.string ⟨#[]⟩,.bool false,.string ⟨#[]⟩],.bool false]|some s2=>.tuple #[.agg #[.string ln,.string ⟨s2.toArray⟩,.bool true,.string ⟨#[]⟩],.bool true])else .tuple #[.agg #[.string ln,.string v,.bool has,.string ⟨#[]⟩],.bool true]:=by
  rw[ho,<-SH]
  cases be nm.data.toList
  ·rfl
  ·cases has<;>cases be v.data.toList<;>simp only[di,iC,cond_true,cond_false,kN,jU,nT,bN]
   cases mG v.data.toList<;>rfl
 generalize nT (dZ s.data.toList)=out at*;generalize be nm.data.toList=tn at*;generalize be v.data.toList=tv at*;generalize mG v.data.toList=uq at*;obtain⟨K1,K2,K3,K4⟩:=bK k1 k2 k3 k4;obtain⟨K5,KC,Nl⟩:=bu k5 kc Nb;clear k1 k2 k3 k4 k5 kc hc hf Nb ho SH Rv Nq
 cases tn
 ·have HO:=ah (show out=_ from hV);clear hV;simp only[iC,cond_true]at HO;go_enter Tryz.func147,Tryz.ntmps147
  go_wp2_with fail
  rw[Nl.out];refine K1.out.mono ?_;rintro e w1 ⟨rfl,M8⟩;go_wp2_with fail
  refine(K2.out _).mono ?_;rintro e w2 ⟨rfl,rfl⟩;have ho:=HO.out;subst ho;clear HO;obtain⟨Ph,g0,g1,g2,g3,q0,q1,q2,q3,VD⟩:=KC.out _ M8;clear KC;go_wp2_with fail
  refine bodyPost_ret_by (v:=.tuple #[.agg #[.string ⟨#[]⟩,.string ⟨#[]⟩,.bool false,.string ⟨#[]⟩],.bool false]) ?_ rfl ?_
  ·rw[results_cell_tmp rfl];go_simp
  ·exact⟨rfl,(((Ph.setCell (p:=⟨w.heap.size,0,none⟩) (aw _) _).setCell (p:=⟨w.heap.size,1,none⟩) (aw _) _).setCell (p:=⟨w.heap.size,2,none⟩) (aw _) _).setCell (p:=⟨w.heap.size,3,none⟩) (aw _) _⟩
 ·simp only[di,cond_false]at hV
  cases has
  ·simp only[gN,cond_false]at hV;have HO:=ah hV;clear hV;go_enter Tryz.func147,Tryz.ntmps147
   go_wp2_with fail
   rw[Nl.out];refine K1.out.mono ?_;rintro e w1 ⟨rfl,M8⟩;go_wp2_with fail
   refine(K2.out _).mono ?_;rintro e w2 ⟨rfl,rfl⟩;have ho:=HO.out;subst ho;clear HO;go_wp2_with fail
   refine(K4.out _).mono ?_;rintro e w9 ⟨rfl,NL⟩;have OP:=bt M8 NL;obtain⟨Ph,g0,g1,g2,g3,q0,q1,q2,q3,VD⟩:=KC.out _ OP;clear KC;go_wp2_with fail
   refine bodyPost_ret_by (v:=.tuple #[.agg #[.string ln,.string v,.bool false,.string ⟨#[]⟩],.bool true]) ?_ rfl ?_
   ·rw[results_cell_tmp rfl];go_simp
   ·exact⟨rfl,(((Ph.setCell (p:=⟨w.heap.size,0,none⟩) (aw _) _).setCell (p:=⟨w.heap.size,1,none⟩) (aw _) _).setCell (p:=⟨w.heap.size,2,none⟩) (aw _) _).setCell (p:=⟨w.heap.size,3,none⟩) (aw _) _⟩
  ·cases tv
   ·simp only[iC,kN,cond_true]at hV
    cases uq with
    |none=>
     have HO:=ah hV;clear hV;simp only at HO
     have K6:Hid (∀w,Calls Tryz.prog 204 #[.string v] w λe w'=>e=.returned (.tuple #[.string ⟨#[]⟩,.int .i64 4])/\Below w.heap.size w w'):=K5;go_enter Tryz.func147,Tryz.ntmps147
     go_wp2_with fail
     rw[Nl.out];refine K1.out.mono ?_;rintro e w1 ⟨rfl,M8⟩;go_wp2_with fail
     refine(K2.out _).mono ?_;rintro e w2 ⟨rfl,rfl⟩;go_wp2_with fail
     refine(K3.out _).mono ?_;rintro e w3 ⟨rfl,rfl⟩;go_wp2_with fail
     refine(K6.out _).mono ?_;rintro e w4 ⟨rfl,Nf⟩;have Ny:=bt M8 Nf;have ho:=HO.out;subst ho;clear HO;obtain⟨Ph,g0,g1,g2,g3,q0,q1,q2,q3,VD⟩:=KC.out _ Ny;clear KC;go_wp2_with fail
     refine bodyPost_ret_by (v:=.tuple #[.agg #[.string ⟨#[]⟩,.string ⟨#[]⟩,.bool false,.string ⟨#[]⟩],.bool false]) ?_ rfl ?_
     ·rw[results_cell_tmp rfl];go_simp
     ·exact⟨rfl,(((Ph.setCell (p:=⟨w.heap.size,0,none⟩) (aw _) _).setCell (p:=⟨w.heap.size,1,none⟩) (aw _) _).setCell (p:=⟨w.heap.size,2,none⟩) (aw _) _).setCell (p:=⟨w.heap.size,3,none⟩) (aw _) _⟩
    |some s2=>
     have HO:=ah hV;clear hV;simp only at HO
     have K6:Hid (∀w,Calls Tryz.prog 204 #[.string v] w λe w'=>e=.returned (.tuple #[.string ⟨s2.toArray⟩,.int .i64 0])/\Below w.heap.size w w'):=K5;go_enter Tryz.func147,Tryz.ntmps147
     go_wp2_with fail
     rw[Nl.out];refine K1.out.mono ?_;rintro e w1 ⟨rfl,M8⟩;go_wp2_with fail
     refine(K2.out _).mono ?_;rintro e w2 ⟨rfl,rfl⟩;go_wp2_with fail
     refine(K3.out _).mono ?_;rintro e w3 ⟨rfl,rfl⟩;go_wp2_with fail
     refine(K6.out _).mono ?_;rintro e w4 ⟨rfl,Nf⟩;have Ny:=bt M8 Nf;have ho:=HO.out;subst ho;clear HO;go_wp2_with fail
     refine(K4.out _).mono ?_;rintro e w9 ⟨rfl,NL⟩;have OP:=bt Ny NL;obtain⟨Ph,g0,g1,g2,g3,q0,q1,q2,q3,VD⟩:=KC.out _ OP;clear KC;go_wp2_with fail
     refine bodyPost_ret_by (v:=.tuple #[.agg #[.string ln,.string ⟨s2.toArray⟩,.bool true,.string ⟨#[]⟩],.bool true]) ?_ rfl ?_
     ·rw[results_cell_tmp rfl];go_simp
     ·exact⟨rfl,(((Ph.setCell (p:=⟨w.heap.size,0,none⟩) (aw _) _).setCell (p:=⟨w.heap.size,1,none⟩) (aw _) _).setCell (p:=⟨w.heap.size,2,none⟩) (aw _) _).setCell (p:=⟨w.heap.size,3,none⟩) (aw _) _⟩
   ·simp only[di,jU,cond_false]at hV;have HO:=ah hV;clear hV;go_enter Tryz.func147,Tryz.ntmps147
    go_wp2_with fail
    rw[Nl.out];refine K1.out.mono ?_;rintro e w1 ⟨rfl,M8⟩;go_wp2_with fail
    refine(K2.out _).mono ?_;rintro e w2 ⟨rfl,rfl⟩;go_wp2_with fail
    refine(K3.out _).mono ?_;rintro e w3 ⟨rfl,rfl⟩;have ho:=HO.out;subst ho;clear HO;go_wp2_with fail
    refine(K4.out _).mono ?_;rintro e w9 ⟨rfl,NL⟩;have OP:=bt M8 NL;obtain⟨Ph,g0,g1,g2,g3,q0,q1,q2,q3,VD⟩:=KC.out _ OP;clear KC;go_wp2_with fail
    refine bodyPost_ret_by (v:=.tuple #[.agg #[.string ln,.string v,.bool true,.string ⟨#[]⟩],.bool true]) ?_ rfl ?_
    ·rw[results_cell_tmp rfl];go_simp
    ·exact⟨rfl,(((Ph.setCell (p:=⟨w.heap.size,0,none⟩) (aw _) _).setCell (p:=⟨w.heap.size,1,none⟩) (aw _) _).setCell (p:=⟨w.heap.size,2,none⟩) (aw _) _).setCell (p:=⟨w.heap.size,3,none⟩) (aw _) _⟩
def nY(L:Nat)(w:World)(g:Nat):Prop:=∃v,w.cell? ⟨L,0,none⟩=some v/\v.ownBlock=some g
def eK(L:Nat)(w w':World):Prop:=
 w.heap.size<=w'.heap.size/\(∀b cur e fz,w.heap[b]?=some (.cells cur e fz)->b≠L->¬nY L w b->w'.heap[b]?=some (.cells cur e fz)) ∧
 (∀g,nY L w' g->nY L w g\/(w.heap.size<=g/\g<w'.heap.size))
theorem eK.trans{L:Nat}{a b c:World}(h:eK L a b)(k:eK L b c):eK L a c:=by
 refine⟨bj h.1 k.1,λi cur e fz hi hL hr=>?_,λg hg=>?_⟩
 ·have h1:=h.2.1 i cur e fz hi hL hr;refine k.2.1 i cur e fz h1 hL (λOm=>?_);rcases h.2.2 i Om with h3|h3
  ·exact hr h3
  ·have:=ae hi;omega
 ·rcases k.2.2 g hg with h3|h3
  ·rcases h.2.2 g h3 with h4|h4
   ·exact Or.inl h4
   ·exact Or.inr ⟨h4.1,bE h4.2 k.1⟩
  ·exact Or.inr ⟨bj h.1 h3.1,h3.2⟩
theorem kC{L g:Nat}{w w':World}(hb:Below w.heap.size w w')(hL:L<w.heap.size):nY L w' g<->nY L w g:=by unfold nY;rw[hb.cell (p:=⟨L,0,none⟩) hL]
def jY(n L:Nat)(w:World):Prop:=∀g,nY L w g->n<=g/\g<w.heap.size
theorem jY.kp{n L:Nat}{w w':World}(h:jY n L w)(k:eK L w w')(hn:n<=w.heap.size):jY n L w':=by
 intro g hg;rcases k.2.2 g hg with h1|h1
 ·exact⟨(h g h1).1,bE (h g h1).2 k.1⟩
 ·exact⟨bj hn h1.1,h1.2⟩
theorem jY.below{n L:Nat}{w w':World}(h:jY n L w)(hb:Below w.heap.size w w')(hL:L<w.heap.size):jY n L w':=by intro g hg;have:=h g ((kC hb hL).1 hg);exact⟨this.1,bE this.2 hb.size⟩
theorem eK.cell{L b j:Nat}{u:Value}{w w':World}(k:eK L w w')(h:w.cell? ⟨b,j,none⟩=some u)(hL:b≠L)(hr:¬nY L w b):w'.cell? ⟨b,j,none⟩=some u:=by
 cases ho:w.heap[b]? with
 |none=>simp[World.cell?,ho]at h
 |some o=>
  cases o with
  |cells cur e fz=>
   have h2:=k.2.1 b cur e fz ho hL hr;simp only[World.cell?,ho]at h;simp only[World.cell?,h2];exact h
  |_=>simp[World.cell?,ho]at h
theorem eK.rd{L:Nat}{A:Option Addr}{n size:Nat}{xs:List Value}{w w':World}(k:eK L w w')(h:Rd A n size xs w)(hr:0<n->∀b o,A=some ⟨b,o,none⟩->b≠L/\¬nY L w b):Rd A n size xs w':=by refine⟨h.1,λhn=>?_⟩;obtain⟨b,o,e,hl,hc⟩:=h.2 hn;obtain⟨h1,h2⟩:=hr hn b o e;exact⟨b,o,e,bE hl k.1,λj u hu=>k.cell (hc j u hu) h1 h2⟩
theorem eK.putObj{L l:Nat}{o:Obj}{w:World}(o':Obj)(hl:w.heap[l]?=some o)(ho:o.isCells=false)(hL:L<l):eK L w (w.putObj l o'):=by
 have Ng:∀b,b≠l->(w.putObj l o').heap[b]?=w.heap[b]?:=λb hb=>World.putObj_heap_other (λe=>hb (by rw[e]))
 refine⟨by simp,λb cur e fz hb _ _=>?_,λg hg=>Or.inl ?_⟩
 ·rw[Ng b (λe2=>by subst e2;rw[hb]at hl;cases hl;cases ho)];exact hb
 ·obtain⟨v,hv,hvo⟩:=hg;refine⟨v,?_,hvo⟩;simp only[World.cell?,Ng L (by omega)]at hv;simp only[World.cell?];exact hv
theorem eK.stored{L:Nat}{v v':Value}{w w1:World}(hf:pD w w1 v v')(hc:w.cell? ⟨L,0,none⟩=some v)(hv':∀g,v'.ownBlock=some g->g<w1.heap.size)(hL:L<w.heap.size)(Ng:v.ownBlock≠some L):eK L w (w1.setCell ⟨L,0,none⟩ v'):=by
 obtain⟨hg,hw⟩:=hf
 have hcell1:w1.cell? ⟨L,0,none⟩=some v:=by have hb:=hg.block L hL (λe=>Ng e.symm);simp only[World.cell?,hb];simpa only[World.cell?]using hc
 refine⟨by simp;exact hg.size,λb cur e fz hb hbL hr=>?_,λg Q_=>?_⟩
 ·rw[fE _ _ _ _ hbL,hg.block b (ae hb) (λe2=>hr ⟨v,hc,e2.symm⟩)];exact hb
 ·obtain⟨u,hu,huo⟩:=Q_
  have U_:u=v':=by have:=World.cell?_setCell_same' w1 ⟨L,0,none⟩ v' (by rw[hcell1];rfl);rw[this]at hu;exact(lv hu).symm
  subst U_;rcases hw with h|h
  ·exact Or.inl ⟨v,hc,by rw[<-h];exact huo⟩
  ·exact Or.inr ⟨h g huo,by simp;exact hv' g huo⟩
def kF(n L:Nat)(w w':World):Prop:=∀b j u,b<n->b≠L->w.cell? ⟨b,j,none⟩=some u->w'.cell? ⟨b,j,none⟩=some u
theorem kF.refl(n L:Nat)(w:World):kF n L w w:=λ_ _ _ _ _ h=>h
theorem kF.below{n L:Nat}{w0 w w':World}(h:kF n L w0 w)(hb:Below w.heap.size w w')(hn:n<=w.heap.size):kF n L w0 w':=λb j u h1 h2 h3=>(hb.cell (p:=⟨b,j,none⟩) (by show b<_;omega)).trans (h b j u h1 h2 h3)
theorem kF.kp{n L:Nat}{w0 w w':World}(h:kF n L w0 w)(k:eK L w w')(hr:jY n L w):kF n L w0 w':=λb j u h1 h2 h3=>k.cell (h b j u h1 h2 h3) h2 (λhx=>by have:=(hr b hx).1;omega)
theorem Rd.keepC{n L:Nat}{w w':World}{A:Option Addr}{m size:Nat}{xs:List Value}(h:Rd A m size xs w)(k:kF n L w w')(hs:n<=w'.heap.size)(hA:0<m->∀b o,A=some ⟨b,o,none⟩->b<n/\b≠L):Rd A m size xs w':=by refine⟨h.1,λhm=>?_⟩;obtain⟨b,o,e,hl,hc⟩:=h.2 hm;obtain⟨h1,h2⟩:=hA hm b o e;exact⟨b,o,e,by omega,λj u hu=>k b _ u h1 h2 (hc j u hu)⟩
def mD(L:Nat)(A:Option Addr)(m:Nat)(w:World):Prop:=0<m->∀b o,A=some ⟨b,o,none⟩->b<w.heap.size/\b≠L/\¬nY L w b
theorem mD.kp{L:Nat}{A:Option Addr}{m:Nat}{w w':World}(h:mD L A m w)(k:eK L w w'):mD L A m w':=by
 intro hm b o e;obtain⟨h1,h2,h3⟩:=h hm b o e;refine⟨bE h1 k.1,h2,λhx=>?_⟩;rcases k.2.2 b hx with h4|h4
 ·exact h3 h4
 ·omega
theorem mD.below{L:Nat}{A:Option Addr}{m:Nat}{w w':World}(h:mD L A m w)(hb:Below w.heap.size w w')(hL:L<w.heap.size):mD L A m w':=by intro hm b o e;obtain⟨h1,h2,h3⟩:=h hm b o e;exact⟨bE h1 hb.size,h2,λhx=>h3 ((kC hb hL).1 hx)⟩
theorem mD.new{n L:Nat}{A:Option Addr}{m size:Nat}{xs:List Value}{w w':World}(hb:Below w.heap.size w w')(hr:jY n L w)(hL:L<w.heap.size)(hd:Rd A m size xs w')(hA:∀b o,A=some ⟨b,o,none⟩->w.heap.size<=b):mD L A m w':=by
 intro hm b o e;obtain⟨b',o',e',hl,_⟩:=hd.2 hm;rw[e]at e'
 cases e'
 have h1:=hA b o e;refine⟨hl,by omega,λhx=>?_⟩;have:=hr b ((kC hb hL).1 hx);omega
theorem eK.of_below{L:Nat}{w w':World}(h:Below w.heap.size w w')(hL:L<w.heap.size):eK L w w':=by refine⟨h.size,λb cur e fz hb _ _=>?_,λg hg=>Or.inl ((kC h hL).1 hg)⟩;rw[h.block b (ae hb)];exact hb
theorem eK.alloc(L:Nat)(w:World)(o:Obj)(hL:L<w.heap.size):eK L w (w.alloc o):=eK.of_below ((aO w.heap.size w).alloc (aw _) o) hL
theorem zg{w w':World}(h:Below w.heap.size w w'):w.grownBy w' none:=⟨h.os,h.tape,h.output,h.size,λk hk _=>h.block k hk⟩
theorem L5:(Tryz.prog.info? 87).map (λi=>(i.zero,i.size,i.bytes))=some (some (.agg #[.string ByteArray.empty,.string ByteArray.empty,.bool false,.string ByteArray.empty]),4,56):=by kernel_rfl
def eF(B:Nat)(v:Value)(ds:List da)(w:World):Prop:=w.ownsRow B 87 4 v ds.length (cz ds)
theorem eF.shape{B:Nat}{v:Value}{ds:List da}{w:World}(h:eF B v ds w):∃a cap,v=.slice a ds.length cap:=by
 rcases h.2 with⟨rfl,h0⟩|⟨g,cap,cur,rfl,_⟩
 ·exact⟨none,0,by rw[h0]⟩
 ·exact⟨_,_,rfl⟩
theorem eF.below{B:Nat}{v:Value}{ds:List da}{w w1:World}(h:eF B v ds w)(hb:Below w.heap.size w w1):eF B v ds w1:=jz h hb
theorem eF.nil(B:Nat)(w:World):eF B (.slice none 0 0) [] w:=World.ownsRow_nil _ _ _ _
theorem eF.rd{B m cap:Nat}{a:Option Addr}{ds:List da}{w:World}(h:eF B (.slice a m cap) ds w):m=ds.length/\Rd a ds.length 4 (cz ds) w:=Rd.of_own h
theorem eF.base{B B':Nat}{v:Value}{ds:List da}{w:World}(h:eF B v ds w)(hB:B'<=B):eF B' v ds w:=by
 refine⟨h.1,?_⟩;rcases h.2 with h|⟨g,cp,cur,hv,hg,r⟩
 ·exact Or.inl h
 ·exact Or.inr ⟨g,cp,cur,hv,by omega,r⟩
theorem Aw(d:da):∀u∈mI d,u.oneCell'=true:=by
 intro u hu;simp[mI]at hu
 rcases hu with rfl|rfl|rfl|rfl<;>rfl
theorem r_(ds:List da)(d:da):cz (ds++[d])=cz ds++mI d:=by unfold cz;simp
theorem DE{ops:Array Oper}{rest:List Oper}{o:Oper}{a:Act}{Q:Exit->Act->World->Prop}(B:Nat)(d:da){w:World}{v:Value}{ds:List da}(Nj:eF B v ds w)(hB:B<=w.heap.size)(hn:ds.length<=1000000000)(Ot:o.guard=none)(s x:Operand)(ho:o.op=.call { callee:=.builtin .append,args:=#[s,x],argTypes:=#[77,77] })(hs:a.eval s=v)(hx:a.eval x=.slice (some ⟨w.heap.size,0,none⟩) 1 1)(hK:∀v' w1,eF B v' (ds++[d]) w1->Below B w w1->pD w w1 v v'->wpList Tryz.prog ops Q rest (a.put o.dst v') w1):wpList Tryz.prog ops Q (o::rest) a (w.alloc (.cells #[.string ⟨d.name.toArray⟩,.string ⟨d.value.toArray⟩,.bool d.has,.string ⟨d.for_.toArray⟩] 87)):=by
 refine oQ (z:=.agg #[.string ByteArray.empty,.string ByteArray.empty,.bool false,.string ByteArray.empty]) (bytes:=56) (n:=ds.length) Ot s x 77 87 ho Tryz.underlying77 L5 rfl (by decide) (by decide) B (mI d) rfl (Aw d) hs hx Nj hB hn ?_;intro v' w1 h1 h2 h3;refine hK v' w1 ?_ h2 h3;show World.ownsRow _ _ _ _ _ _ _
 rw[bP,dM,r_];exact h1
def du(w:World)(ds:List da)(e:Ending)(w':World):Prop:=∃a cap,e=.returned (.slice a ds.length cap)/\eF w.heap.size (.slice a ds.length cap) ds w'/\Below w.heap.size w w'
attribute [local go_sem] Oper.semAt_some
def CT(d:da):Value:=.agg #[.string ⟨d.name.toArray⟩,.string ⟨d.value.toArray⟩,.bool d.has,.string ⟨d.for_.toArray⟩]
theorem Ce(vs:List (List UInt8))(k:Nat)(h:k<vs.length):bD (vs.take (k+1))=bD (vs.take k)++(wU vs[k]).filterMap dZ:=by unfold bD;rw[gL h,List.flatMap_append];simp[oh]
theorem Dx(ps:List (List UInt8))(m:Nat)(h:m<ps.length):(ps.take (m+1)).filterMap dZ=(ps.take m).filterMap dZ++(dZ ps[m]).toList:=by
 rw[gL h,List.filterMap_append]
 cases hs:dZ ps[m]<;>simp[hs]
theorem Rd.newS1(w:World)(l:List UInt8)(T:TypeId):Rd (some ⟨w.heap.size,0,none⟩) 1 1 (aF [l]) (w.alloc (.cells #[.string ⟨l.toArray⟩] T)):=by
 refine⟨rfl,λ_=>⟨w.heap.size,0,rfl,by simp,λj u hu=>?_⟩⟩;rw[iq,cK]
 match j,hu with
 |0,hu=>exact hu
 |j+1,hu=>simp[aF]at hu
theorem yZ(l:List UInt8):(ax 44 l).1.length<=64:=by
 unfold ax
 cases((44:UInt8).toNat==34||(44:UInt8).toNat==92)
 ·cases ea 44 false false [] [] l with
  |none=>simp[fG]
  |some ls=>
   simp only[fG,cond_false]
   cases h:decide (64<ls.length)
   ·simp at h ⊢;exact h
   ·simp
 ·simp
theorem Is(L Bs:Nat)(A:Option Addr)(n c:Nat)(vs:List (List UInt8))(w:World)(hM:cq w)(hL:L<w.heap.size)(hML:0≠L)(ZQ:Bs<w.heap.size)(Wi:w.cell? ⟨Bs,0,none⟩=some (.slice A n c))(hr:Rd A n 1 (aF vs) w)(hA:0<n->∀b o,A=some ⟨b,o,none⟩->b<w.heap.size/\b≠L)(UY:jY w.heap.size L w)(hn:n<=1000000)(hl:∀v∈vs,v.length<=1000000)(d:Nat)(hd:1<=d)(l:Nat)(J Jx:List da->World->Prop)(W:World)(hW:Below w.heap.size w W)(hJa:AbidesFrom W.heap.size J)(hY:∀pre x W1,J pre W1->pre.length<64*vs.length->YieldAt Fence.wide (d-1) Tryz.prog l #[CT x] W1 fun e W' =>(e=.returned (.bool true)/\J (pre++[x]) W'/\eK L W1 W')\/(e=.returned (.bool false)/\Jx (pre++[x]) W'))(h0:J [] W):CallsIn Fence.wide d Tryz.prog 146 #[.func (.yield l) #[] #[],.pointer (some ⟨Bs,0,none⟩)] W λe W'=>(∃v,e=.returned v)/\((∃ys,ys=bD vs/\J ys W')\/(∃pre,True/\Jx pre W')):=by
 obtain rfl:=hr.str;have Ol:W.cell? ⟨Bs,0,none⟩=some (.slice A vs.length c):=(hW.cell (p:=⟨Bs,0,none⟩) ZQ).trans Wi;have Ux:kF w.heap.size L w W:=(kF.refl _ _ w).below hW (aw _);have hr0:jY w.heap.size L W:=UY.below hW hL;have hJb:∀pre W1 W2,J pre W1->Below W1.heap.size W1 W2->J pre W2:=λpre W1 W2 h1 h2=>hJa pre W1 W2 none h1 (zg h2) (λr e=>by cases e)
 obtain⟨HM,HR,HA,HL,HY,ZN⟩:=eN hM hr hA hl hY hJb;obtain⟨YO,Rt⟩:=az Ux hr0;clear hM hr hA hl hY hJb Ux hr0 hJa UY;refine callsIn_of_wp Tryz.func146 rfl trivial ?_ rfl;simp only[Tryz.ntmps146,List.size_toArray,cg,ic,Nat.reduceAdd,Nat.reduceSub,Array.replicate_succ,Array.replicate_zero,List.push_toArray,List.append_toArray,lp,mr]
 gi_wp2
 gi_loopw [13] (λi wr=>∃(k:Nat) (pre:List da),k<=vs.length/\i=.int .i64 k/\Hid (pre=bD (vs.take k))/\pre.length<=64*k/\J pre wr/\Hid (kF w.heap.size L w wr)/\Hid (jY w.heap.size L wr)/\w.heap.size<=wr.heap.size) (λi _=>vs.length-(intOf i).toNat)
 case atStart=>exact⟨0,[],a_ _,rfl,am rfl,by simp,h0,YO,Rt,hW.size⟩
 case round=>
  clear YO Rt h0;obtain⟨k,pre,hk,rfl,OF,Oe,TZ,HK,OL,ND⟩:=hrel;have Sv:L<wr.heap.size:=by omega
  by_cases Nc:k<vs.length
  ·have RK:=HR.out.keepC HK.out ND HA.out;obtain⟨b,o,rfl,Vq,c1⟩:=RK.str_at (k:=k) Nc;have hv:=HL.out vs[k] (bQ _);have Oj:=Ce vs k Nc;generalize vs[k]=v at*;have k2:=iJ ⟨v.toArray⟩ 44 wr (by rw[aY];exact hv);simp only at k2
   have PV:(ax 44 v).1.length<=64:=yZ v;have Rw:=ci 44 v;have Vs:wU v=bif(ax 44 v).2==0 then(ax 44 v).1 else [noStore]:=rfl;generalize wU v=ps0 at*;generalize ax 44 v=r at*;obtain⟨ps,er⟩:=r;simp only at PV Rw Vs
   have K2:=ah k2
   cases hz:(er==0)
   ·rw[hz,cond_false]at Vs;subst Vs;have n0:(er !=0)=true:=by simp[bne,hz]
    have Su:=ah Oj;have Ui:Hid (∀p∈[noStore],p.length<=1000000):=am (by intro p hp;simp at hp;subst hp;decide);clear Oj k2 RK hz Rw PV hv
    gi_wp2_with (refine⟨trivial,?_⟩;gi_at_call 62;refine(callsIn_wide.2 K2.out).mono ?_;rintro e w3 ⟨a3',c3',rfl,NN,Na⟩;simp only)
    have h4:=Na.alloc Na.size (.cells #[.string nX] 9);have SM:Rd (some ⟨w3.heap.size,0,none⟩) 1 1 (aF [noStore]) (w3.alloc (.cells #[.string nX] 9)):=Rd.newS1 w3 noStore 9;have Sx:=ah (aB SM (mD.new h4 OL.out Sv SM (λb o e=>by cases e;exact Na.size)));have hJ3:=ZN.out pre _ _ TZ h4;have Vl:=ah (HK.out.below h4 ND);have RE:=ah (OL.out.below h4 Sv);have R_:=bj ND h4.size;clear NN Na SM K2 c1 HK OL TZ h4;generalize (w3.alloc (.cells #[.string nX] 9))=w4 at*;generalize w3.heap.size=g3 at*;obtain⟨wo,ZR⟩:∃wo:World,wo=wr:=⟨_,rfl⟩;clear Sv ND;subst ZR
    gi_loopw [27] (λj wi=>∃(m:Nat) (pre:List da),m<=1/\j=.int .i64 m/\Hid (pre=bD (vs.take k)++([noStore].take m).filterMap dZ)/\pre.length<=64*k+m/\J pre wi/\Hid (kF w.heap.size L w wi)/\Hid (jY w.heap.size L wi)/\w.heap.size<=wi.heap.size/\Hid (Rd (some ⟨g3,0,none⟩) 1 1 (aF [noStore]) wi/\mD L (some ⟨g3,0,none⟩) 1 wi)) (λj _=>1-(intOf j).toNat)
    case atStart=>exact⟨0,pre,a_ _,rfl,by show _=_;rw[OF.out];simp,by omega,hJ3,Vl,RE,R_,Sx⟩
    case round=>
     clear Vl RE Sx hJ3 R_ OF Oe;obtain⟨m,pre,hm,rfl,OF,Oe,TZ,HK,OL,ND,HP⟩:=hrel;have Sv:L<wr.heap.size:=by omega
     by_cases Qm:m<1
     ·obtain⟨b2,o2,Rj,Nq,c2⟩:=HP.out.1.str_at (k:=m) Qm;have Ss:=Ui.out (([noStore]:List (List UInt8))[m]'Qm) (bQ _);have TM:=Dx [noStore] m Qm
      have Uc:cq wr:=by obtain⟨g1,mm,g2⟩:=HM.out;exact⟨by omega,mm,HK.out _ 0 _ g1 hML g2⟩
      generalize (([noStore]:List (List UInt8))[m]'Qm)=p at*;have k1:=AX ⟨p.toArray⟩ wr Uc (by rw[aY];exact Ss);simp only at k1
      clear Uc
      cases Rj
      rw[iq]at c2
      cases hs:dZ p with
      |none=>
       rw[hs]at k1 TM;unfold nT at k1;have NR:pre=bD (vs.take k)++([noStore].take (m+1)).filterMap dZ:=by rw[OF.out,TM];simp
       obtain⟨O1,K1⟩:=az NR k1;clear NR k1 TM hs OF
       gi_wp2_with (refine⟨trivial,?_⟩;gi_at_call 147;refine(callsIn_wide.2 K1.out).mono ?_;rintro e w5 ⟨rfl,Ns⟩)
       have h6:=Ns.alloc Ns.size lB;have hJ6:=ZN.out pre _ _ TZ h6;have Rr:=ah (HK.out.below h6 ND);have UM:=ah (OL.out.below h6 Sv);have TN:=ah (aB (HP.out.1.below h6) (HP.out.2.below h6 Sv));have SL:=bj ND h6.size;clear HK OL HP c2 K1;refine⟨λ_ h=>(by cases h),?_⟩
       gi_wp2
       go_roundw
       case rel=>exact⟨m+1,pre,by omega,by go_num,O1,by omega,hJ6,Rr,UM,SL,TN⟩
       case measure=>simp[intOf];omega
      |some dd=>
       rw[hs]at k1 TM;have NR:pre++[dd]=bD (vs.take k)++([noStore].take (m+1)).filterMap dZ:=by rw[OF.out,TM];simp
       have k2:Calls Tryz.prog 147 #[.string ⟨p.toArray⟩] wr λe w'=>e=.returned (.tuple #[.agg #[.string ⟨dd.name.toArray⟩,.string ⟨dd.value.toArray⟩,.bool dd.has,.string ⟨dd.for_.toArray⟩],.bool true])/\Below wr.heap.size wr w':=k1
       obtain⟨O1,K1⟩:=az NR k2;have U5:pre.length<64*vs.length:=by omega
       have hy0:=λW h=>HY.out pre dd W h U5
       have HY0:=ah hy0;clear NR k1 k2 TM hs OF hy0;obtain⟨dn,dv,dh,df⟩:=dd;unfold CT at HY0;simp only at K1
       gi_wp2_with (refine⟨trivial,?_⟩;gi_at_call 147;refine(callsIn_wide.2 K1.out).mono ?_;rintro e w5 ⟨rfl,Ns⟩;have h6:=Ns.alloc Ns.size (.cells #[.string ⟨dn.toArray⟩,.string ⟨dv.toArray⟩,.bool dh,.string ⟨df.toArray⟩] 87);obtain⟨fn,tmps,assign,body,hy,hR⟩:=HY0.out _ (ZN.out pre _ _ TZ h6);dsimp only at hy)
       have Rr:=ah (HK.out.below h6 ND);have UM:=ah (OL.out.below h6 Sv);have TN:=ah (aB (HP.out.1.below h6) (HP.out.2.below h6 Sv));have SL:=bj ND h6.size;refine hR.mono ?_;rintro e W7 (⟨rfl,hJ7,S7⟩|⟨rfl,ZA⟩)
       ·have HK7:=ah (Rr.out.kp S7 UM.out);have V7:=ah (UM.out.kp S7 SL);have Zi:=ah (aB (S7.rd TN.out.1 (λh b o e=>(TN.out.2 h b o e).2)) (TN.out.2.kp S7));have QO:=bj SL S7.1;clear HK OL HP c2 K1 Rr UM TN hR hy
        gi_wp2
        go_roundw
        case rel=>exact⟨m+1,pre++[⟨dn,dv,dh,df⟩],by omega,by go_num,O1,by simp;omega,hJ7,HK7,V7,QO,Zi⟩
        case measure=>simp[intOf];omega
       ·gi_wp2
        refine bodyPost_ret (results_none rfl _ _ _) rfl ?_;exact⟨⟨_,rfl⟩,.inr ⟨_,trivial,ZA⟩⟩
     ·have Sm:m=1:=by omega
      subst Sm;have NR:pre=bD (vs.take (k+1)):=by rw[Su.out,OF.out];rfl
      have O1:=ah NR;clear NR HP Ui OF
      gi_wp2
      go_roundw
      case rel=>exact⟨k+1,pre,by omega,by go_num,O1,by omega,TZ,HK,OL,ND⟩
      case measure=>simp[intOf];omega
   ·rw[hz,cond_true]at Vs;subst Vs;have n0:(er !=0)=false:=by simp[bne,hz]
    have Su:=ah Oj;have Ui:Hid (∀p∈ps0,p.length<=1000000):=am (by intro p hp;have:=cG hp;omega);clear Oj k2 RK hz Rw hv
    gi_wp2_with (refine⟨trivial,?_⟩;gi_at_call 62;refine(callsIn_wide.2 K2.out).mono ?_;rintro e w3 ⟨a3,c3,rfl,NN,Na⟩;simp only)
    have SM:=NN.rd.2;have Sx:=ah (aB SM (mD.new Na OL.out Sv SM (mf NN)));have hJ3:=ZN.out pre _ _ TZ Na;have Vl:=ah (HK.out.below Na ND);have RE:=ah (OL.out.below Na Sv);have R_:=bj ND Na.size;clear NN SM K2 c1 HK OL TZ Na;obtain⟨wo,ZR⟩:∃wo:World,wo=wr:=⟨_,rfl⟩;clear Sv ND;subst ZR
    gi_loopw [27] (λj wi=>∃(m:Nat) (pre:List da),m<=ps0.length/\j=.int .i64 m/\Hid (pre=bD (vs.take k)++(ps0.take m).filterMap dZ)/\pre.length<=64*k+m/\J pre wi/\Hid (kF w.heap.size L w wi)/\Hid (jY w.heap.size L wi)/\w.heap.size<=wi.heap.size/\Hid (Rd a3 ps0.length 1 (aF ps0) wi/\mD L a3 ps0.length wi)) (λj _=>ps0.length-(intOf j).toNat)
    case atStart=>exact⟨0,pre,a_ _,rfl,by show _=_;rw[OF.out];simp,by omega,hJ3,Vl,RE,R_,Sx⟩
    case round=>
     clear Vl RE Sx hJ3 R_ OF Oe;obtain⟨m,pre,hm,rfl,OF,Oe,TZ,HK,OL,ND,HP⟩:=hrel;have Sv:L<wr.heap.size:=by omega
     by_cases Qm:m<ps0.length
     ·obtain⟨b2,o2,Rj,Nq,c2⟩:=HP.out.1.str_at (k:=m) Qm;have Ss:=Ui.out ps0[m] (bQ _);have TM:=Dx ps0 m Qm
      have Uc:cq wr:=by obtain⟨g1,mm,g2⟩:=HM.out;exact⟨by omega,mm,HK.out _ 0 _ g1 hML g2⟩
      generalize ps0[m]=p at*;have k1:=AX ⟨p.toArray⟩ wr Uc (by rw[aY];exact Ss);simp only at k1
      clear Uc;subst Rj
      cases hs:dZ p with
      |none=>
       rw[hs]at k1 TM;unfold nT at k1;have NR:pre=bD (vs.take k)++(ps0.take (m+1)).filterMap dZ:=by rw[OF.out,TM];simp
       obtain⟨O1,K1⟩:=az NR k1;clear NR k1 TM hs OF
       gi_wp2_with (refine⟨trivial,?_⟩;gi_at_call 147;refine(callsIn_wide.2 K1.out).mono ?_;rintro e w5 ⟨rfl,Ns⟩)
       have h6:=Ns.alloc Ns.size lB;have hJ6:=ZN.out pre _ _ TZ h6;have Rr:=ah (HK.out.below h6 ND);have UM:=ah (OL.out.below h6 Sv);have TN:=ah (aB (HP.out.1.below h6) (HP.out.2.below h6 Sv));have SL:=bj ND h6.size;clear HK OL HP c2 K1;refine⟨λ_ h=>(by cases h),?_⟩
       gi_wp2
       go_roundw
       case rel=>exact⟨m+1,pre,by omega,by go_num,O1,by omega,hJ6,Rr,UM,SL,TN⟩
       case measure=>simp[intOf];omega
      |some dd=>
       rw[hs]at k1 TM;have NR:pre++[dd]=bD (vs.take k)++(ps0.take (m+1)).filterMap dZ:=by rw[OF.out,TM];simp
       have k2:Calls Tryz.prog 147 #[.string ⟨p.toArray⟩] wr λe w'=>e=.returned (.tuple #[.agg #[.string ⟨dd.name.toArray⟩,.string ⟨dd.value.toArray⟩,.bool dd.has,.string ⟨dd.for_.toArray⟩],.bool true])/\Below wr.heap.size wr w':=k1
       obtain⟨O1,K1⟩:=az NR k2;have U5:pre.length<64*vs.length:=by omega
       have hy0:=λW h=>HY.out pre dd W h U5
       have HY0:=ah hy0;clear NR k1 k2 TM hs OF hy0;obtain⟨dn,dv,dh,df⟩:=dd;unfold CT at HY0;simp only at K1
       gi_wp2_with (refine⟨trivial,?_⟩;gi_at_call 147;refine(callsIn_wide.2 K1.out).mono ?_;rintro e w5 ⟨rfl,Ns⟩;have h6:=Ns.alloc Ns.size (.cells #[.string ⟨dn.toArray⟩,.string ⟨dv.toArray⟩,.bool dh,.string ⟨df.toArray⟩] 87);obtain⟨fn,tmps,assign,body,hy,hR⟩:=HY0.out _ (ZN.out pre _ _ TZ h6);dsimp only at hy)
       have Rr:=ah (HK.out.below h6 ND);have UM:=ah (OL.out.below h6 Sv);have TN:=ah (aB (HP.out.1.below h6) (HP.out.2.below h6 Sv));have SL:=bj ND h6.size;refine hR.mono ?_;rintro e W7 (⟨rfl,hJ7,S7⟩|⟨rfl,ZA⟩)
       ·have HK7:=ah (Rr.out.kp S7 UM.out);have V7:=ah (UM.out.kp S7 SL);have Zi:=ah (aB (S7.rd TN.out.1 (λh b o e=>(TN.out.2 h b o e).2)) (TN.out.2.kp S7));have QO:=bj SL S7.1;clear HK OL HP c2 K1 Rr UM TN hR hy
        gi_wp2
        go_roundw
        case rel=>exact⟨m+1,pre++[⟨dn,dv,dh,df⟩],by omega,by go_num,O1,by simp;omega,hJ7,HK7,V7,QO,Zi⟩
        case measure=>simp[intOf];omega
       ·gi_wp2
        refine bodyPost_ret (results_none rfl _ _ _) rfl ?_;exact⟨⟨_,rfl⟩,.inr ⟨_,trivial,ZA⟩⟩
     ·have Sm:m=ps0.length:=by omega
      subst Sm;have NR:pre=bD (vs.take (k+1)):=by rw[Su.out,OF.out];rw[eM]
      have O1:=ah NR;clear NR HP Ui OF
      gi_wp2
      go_roundw
      case rel=>exact⟨k+1,pre,by omega,by go_num,O1,by omega,TZ,HK,OL,ND⟩
      case measure=>simp[intOf];omega
  ·have NI:k=vs.length:=by omega
   subst NI;have NR:pre=bD vs:=by rw[OF.out,eM]
   clear HK OL OF
   gi_wp2
   go_end0
   exact⟨⟨_,rfl⟩,.inl ⟨pre,NR,TZ⟩⟩
theorem L9:Keyed Tryz.prog 9:=string_keyed Tryz.underlying9
theorem Mo(w:World):(zeroValue 3).run Tryz.prog w=.ok (.int .i64 0) w:=by kernel_rfl
theorem Ls{l:List UInt8}(h:l.length<=1000000000):keyOf Tryz.prog 9 (.string ⟨l.toArray⟩)=some (.string l):=by have:=keyOf_string_mk (P:=Tryz.prog) Tryz.underlying9 (s:=⟨l.toArray⟩) (by rw[aY];show l.length<=_;unfold maxLen;omega);simpa using this
def uj(M n:Nat)(f:List UInt8->Int)(w:World):Prop:=∃D:DataW Unit,w.ownsMap Tryz.prog 9 (plainElem Tryz.prog 3) M n D/\IsMap D/\∀l:List UInt8,D.atKey (.string l) (.lit (.int .i64 0))=.lit (.int .i64 (f l))
theorem uj.start(w:World):uj w.heap.size 0 (λ_=>0) (w.alloc (.map #[] 0)):=⟨.map [],World.ownsMap_made _ _ _ _,isMap_empty,λl=>by simp[DataW.atKey]⟩
theorem uj.kept{M n:Nat}{f:List UInt8->Int}{w w1:World}{row:Option Nat}(h:uj M n f w)(hg:w.grownBy w1 row)(Ng:some M≠row):uj M n f w1:=by obtain⟨D,h1,h2,h3⟩:=h;exact⟨D,h1.kept hg Ng,h2,h3⟩
theorem AK{w w1:World}(h:Below w.heap.size w w1)(row:Option Nat):w.grownBy w1 row:=⟨h.os,h.tape,h.output,h.size,λk hk _=>h.block k hk⟩
theorem uj.below{M n:Nat}{f:List UInt8->Int}{w w1:World}(h:uj M n f w)(hb:Below w.heap.size w w1):uj M n f w1:=h.kept (AK hb none) (by simp)
theorem uj.map{M n:Nat}{f:List UInt8->Int}{w:World}(h:uj M n f w):∃es c,w.heap[M]?=some (.map es c):=by obtain⟨D,⟨es,c,h1,_⟩,_⟩:=h;exact⟨es,c,h1⟩
theorem Dt{w:World}{M:Nat}{e:TypeId}{size B n:Nat}{v:Value}{xs:List Value}{es:Array MapEntry}{c:Nat}(hm:w.heap[M]?=some (.map es c))(h:w.ownsRow B e size v n xs):some M≠v.ownBlock:=by
 intro he;rcases h.2 with⟨rfl,_⟩|⟨g,cap,cur,rfl,_,hh,_⟩
 ·simp[Value.ownBlock]at he
 ·have:g=M:=by simpa[Value.ownBlock]using he.symm
  subst this;rw[hh]at hm;cases hm
theorem uj.far{M n B:Nat}{e:TypeId}{size m:Nat}{f:List UInt8->Int}{w w1:World}{v v':Value}{xs:List Value}(h:uj M n f w)(ho:w.ownsRow B e size v m xs)(hf:pD w w1 v v'):uj M n f w1:=by obtain⟨es,c,hm⟩:=h.map;exact h.kept hf.1 (Dt hm ho)
theorem Rd.grown{A:Option Addr}{n size:Nat}{xs:List Value}{w w1:World}{row:Option Nat}(h:Rd A n size xs w)(hg:w.grownBy w1 row)(Ng:0<n->∀g o,A=some ⟨g,o,none⟩->row≠some g):Rd A n size xs w1:=by refine⟨h.1,λhn=>?_⟩;obtain⟨b,o,e,hl,hc⟩:=h.2 hn;have hb:=hg.block b hl (λx=>Ng hn b o e x.symm);exact⟨b,o,e,bE hl hg.size,λj u hu=>(World.cell?_of_block (a:=⟨b,o+j,none⟩) hb).trans (hc j u hu)⟩
theorem tZ{A:Option Addr}{n size:Nat}{xs:List Value}{w:World}{M:Nat}{es:Array MapEntry}{c:Nat}(h:Rd A n size xs w)(hs:0<size)(hm:w.heap[M]?=some (.map es c)):0<n->∀g o,A=some ⟨g,o,none⟩->some M≠some g:=by
 intro hn g o e he;obtain⟨b,o',e',hl,hc⟩:=h.2 hn;rw[e']at e
 cases e
 cases he
 have hp:0<n*size:=Nat.mul_pos hn hs;have h0:=hc 0 (xs[0]'(by rw[h.1];exact hp)) (lx _);simp[World.cell?,hm]at h0
theorem Ez{B:Nat}{e:TypeId}{size m:Nat}{v:Value}{xs:List Value}{w w1:World}{row:Option Nat}(h:w.ownsRow B e size v m xs)(hg:w.grownBy w1 row)(Ng:row≠v.ownBlock\/v.ownBlock=none):w1.ownsRow B e size v m xs:=by
 obtain⟨h1,h2⟩:=h;refine⟨h1,?_⟩;rcases h2 with h2|⟨g,cap,cur,rfl,hb,hh,r⟩
 ·exact Or.inl h2
 ·refine Or.inr ⟨g,cap,cur,rfl,hb,?_,r⟩
  have Nc:g<w.heap.size:=by
   rcases ef g w.heap.size with h'|h'
   ·exact h'
   ·simp[fy h']at hh
  rw[hg.block g Nc (by
   rcases Ng with h|h
   ·exact λx=>h x.symm
   ·simp[Value.ownBlock]at h)]
  exact hh
def ID(st:Int)(re:ByteArray)(mi:Int)(fa:Option Addr)(fn fc:Nat)(bo:ByteArray):Value:=.agg #[.int .i64 st,.string re,.int .i64 mi,.slice fa fn fc,.string bo]
def iH(w:World)(o:Option (List (List UInt8)))(e:Ending)(w':World):Prop:=∃a cap,e=.returned (.tuple #[.slice a (dw o).length cap,.bool o.isSome])/\aQ w.heap.size (.slice a (dw o).length cap) (dw o) w'/\Below w.heap.size w w'
theorem iH.none{w w':World}(h:Below w.heap.size w w'):iH w Option.none (.returned (.tuple #[.slice Option.none 0 0,.bool false])) w':=⟨Option.none,0,rfl,aQ.nil _ _,h⟩
def Mn(o:Option (List (List UInt8)))(rest:List (List UInt8)):Option (List (List UInt8)):=match o with|none=>none|some a=>eG a rest
theorem oq(st:Int)(re:ByteArray)(mi:Int)(A:Option Addr)(n c:Nat)(bo:ByteArray)(xs:List aU)(w:World)(hr:Rd A n 2 (aJ xs) w)(hn:n<=1000)(hs:∀f∈xs,f.1.length<=1000000/\f.2.length<=1000000):Calls Tryz.prog 290 #[ID st re mi A n c bo] w (iH w (bz xs)):=by
 have YV:=@run_makeMap Tryz.prog;obtain⟨W0,Nb⟩:=bg w (.cells #[.int .i64 st,.string re,.int .i64 mi,.slice A n c,.string bo] 41);have Nm:=bm Nb;have hV0:W0.cell? ⟨w.heap.size,3,none⟩=some (.slice A n c):=by rw[<-Nb];exact cK w _ _ _ 3
 have N_:W0.heap.size=w.heap.size+1:=by rw[<-Nb];simp
 have k0:=λW(hb:Below w.heap.size w W)=>cX A n c xs ⟨pj.toArray⟩ W (hr.below hb) (by omega) (λf hf=>(hs f hf).1) (by decide)
 have QS:=cD xs pj;have QV:=hr.fld
 have ZC:∀v∈af xs pj,v.length<=1000000:=by intro v hv;obtain⟨f,hf,e⟩:=i_ hv;rw[<-e];exact(hs f hf).2
 have Vy:(af xs pj).length<=1000:=by omega
 simp only at k0
 obtain⟨OY,OG⟩:=aH (bz xs);rw[OG];have P_:eG [] (af xs pj)=OY:=OG;clear QS QV hr hs OG;generalize af xs pj=vs at*;obtain⟨K0,HVB,HT,Nl,Tv⟩:=gB k0 ZC P_ Nb N_;clear k0 ZC P_ Nb N_;unfold ID;go_enter Tryz.func290,Tryz.ntmps290
 go_upto_region 1 with(fail)
 rw[Nl.out];have hV1:=(Mf W0 (.map #[] 0) ⟨w.heap.size,3,none⟩ (by show w.heap.size<W0.heap.size;have:=Tv.out;omega)).trans hV0;go_wp2_with fail
 clear YV hV1;have Ni:=Nm.alloc Nm.size (.map #[] 0);refine(K0.out _ Ni).mono ?_;rintro e w2 ⟨va,vc,rfl,Nz,M9⟩;have UB:=(uj.start W0).below M9;have HV:=ah Nz.rd.2;have Nk:=Ni.trans (M9.mono Ni.size);have hM:W0.heap.size<w2.heap.size:=by have:=M9.size;simp at this;omega
 have hMw:w.heap.size<=W0.heap.size:=Nm.size;clear Nz M9 Ni Nm hV0;generalize W0.heap.size=M at*
 have QM:0<vs.length->∀g o,va=some ⟨g,o,none⟩->some M≠some g:=by obtain⟨es,cl,hm⟩:=UB.map;exact tZ HV.out (by decide) hm
 obtain⟨Yo,HNM⟩:=az UB QM;clear UB QM;have YS:=World.grownBy.refl w2 (some M);go_wp2_with fail
 go_loopw [18,5] (λi l wr=>∃(k q:Nat) (acc:List (List UInt8)) (f:List UInt8->Int),k<=vs.length/\i=.int .i64 k/\q<=64*k/\acc.length<=q/\Hid (aQ w2.heap.size l acc wr/\uj M q f wr/\m_ f acc q)/\w2.grownBy wr (some M)/\Hid (eG acc (vs.drop k)=OY)) (λi _ _=>vs.length-(intOf i).toNat)
 case atStart=>exact⟨0,0,[],λ_=>0,a_ _,rfl,by omega,by simp,am ⟨aQ.nil _ _,Yo.out,m_.start⟩,YS,by rw[na];exact HT⟩
 case round=>
  clear YS Yo HT;obtain⟨k,q,acc,f,hk,rfl,hq,Rx,HO,Q_,HT⟩:=hrel;have hVr:=HV.out.grown Q_ HNM.out;by_cases Nc:k<vs.length
  ·obtain⟨b,o,rfl,hl,c1⟩:=hVr.str_at (k:=k) Nc;have hv:=HVB.out vs[k] (bQ _);have QC:=HT.out;rw[sV vs k Nc]at QC;generalize vs[k]=v at*;rw[eG]at QC;have Oe:=oD 44 v;have Rw:=bj (ci 44 v) hv;have k1:=λw=>iJ ⟨v.toArray⟩ 44 w (by rw[aY];exact hv)
   simp only at k1
   generalize ax 44 v=r at*;obtain⟨ps,er⟩:=r;simp only at Oe Rw QC
   obtain⟨K1,HD⟩:=az k1 QC;clear k1 QC hv hVr;go_wp2_with fail
   refine(K1.out _).mono ?_;rintro e w3 ⟨pa,pc,rfl,NN,Na⟩;simp only at NN
   have M_:Below w.heap.size w w3:=by refine(Nk.trans ?_).trans (Na.mono (by have:=Q_.size;have:=Nk.size;omega));exact⟨Q_.os,Q_.tape,Q_.output,Q_.size,λj hj=>Q_.block j (by have:=Nk.size;omega) (by intro x;cases x;omega)⟩
   cases he:(er==0)
   ·have n1:(er !=0)=true:=by simp[bne,he]
    have hd:=HD.out;rw[he,cond_false]at hd;subst hd;go_wp2;go_ret2
    exact iH.none M_
   ·have n1:(er !=0)=false:=by simp[bne,he]
    have hd:=HD.out;rw[he,cond_true]at hd;have Oc:Mn (dA acc ps) (vs.drop (k+1))=OY:=hd;obtain⟨tp,VY⟩:=aH (dA acc ps);rw[VY]at Oc;obtain⟨So,HTP⟩:=az Oc VY;clear hd Oc VY HD HT
    have Nd:Hid (aQ w2.heap.size u5 acc w3/\uj M q f w3/\m_ f acc q/\Rd pa ps.length 1 (aF ps) w3/\xM u5 pa ps.length):=by refine am ⟨HO.out.1.below Na,HO.out.2.1.below Na,HO.out.2.2,NN.rd.2,?_⟩;intro _ g o e x;have h1:=(HO.out.1.lt g x).2;have h2:=mf NN g o e;omega
    have hpm:0<ps.length->∀g o,pa=some ⟨g,o,none⟩->some M≠some g:=by intro hp;obtain⟨es,cl,hm⟩:=(HO.out.2.1.below Na).map;exact tZ NN.rd.2 (by decide) hm hp
    have HPM:=ah hpm;clear hpm;have hgr3:w2.grownBy w3 (some M):=Q_.trans ⟨Na.os,Na.tape,Na.output,Na.size,λj hj _=>Na.block j hj⟩;clear HO NN Na M_ Q_ K1 c1;go_wp2_with fail
    obtain⟨wo,rfl⟩:∃wo:World,wo=wr:=⟨_,rfl⟩;go_loopw [31,5] (λj l wi=>∃(m q2:Nat) (ac:List (List UInt8)) (f2:List UInt8->Int),m<=ps.length/\j=.int .i64 m/\q2<=q+m/\ac.length<=q2/\Hid (aQ w2.heap.size l ac wi/\uj M q2 f2 wi/\m_ f2 ac q2/\Rd pa ps.length 1 (aF ps) wi/\xM l pa ps.length)/\w2.grownBy wi (some M)/\Hid (dA ac (ps.drop m)=tp)) (λj _ _=>ps.length-(intOf j).toNat)
    case atStart=>exact⟨0,q,acc,f,a_ _,rfl,by omega,Rx,Nd,hgr3,by rw[na];exact HTP⟩
    case round=>
     clear Nd hgr3 HTP;obtain⟨m,q2,ac,f2,hm,rfl,hq2,hac,HI,hgi,HTP⟩:=hrel;by_cases Qm:m<ps.length
     ·obtain⟨b2,o2,rfl,Nq,c2⟩:=HI.out.2.2.2.1.str_at (k:=m) Qm;have Ss:=bj (cG (bQ Qm)) Rw;have QC:=HTP.out;rw[sV ps m Qm,dA]at QC;generalize ps[m]=p at*;have Q5:(ai p).length<=1000000:=by rw[d_];exact Ss
      have k4:=λw=>ju ⟨p.toArray⟩ w (by rw[aY];exact Ss)
      simp only at k4
      generalize ai p=nm at*;have k5:=λw=>fR ⟨nm.toArray⟩ w (by rw[aY];exact Q5)
      simp only at k5
      have Nv:=Ls (l:=nm) (by omega);obtain⟨K4,K5,HD,Zt⟩:=bK k4 k5 QC Nv;clear k4 k5 QC Nv Ss;go_wp2_with fail
      refine(K4.out _).mono ?_;rintro e w4 ⟨rfl,Nf⟩;obtain⟨D,Nj,Pg,TB⟩:=HI.out.2.1.below Nf;have Tx:=HI.out.2.2.1;have M8:=Tx.1 nm;have Wh:=wC (HI.out.1.below Nf) (HI.out.2.2.2.1.below Nf);have Zy:=HI.out.2.2.2.2
      have hne5:some M≠u5.ownBlock:=by obtain⟨es,cl,hm⟩:=(HI.out.2.1.below Nf).map;exact Dt hm Wh.out.1
      have hgr4:w2.grownBy w4 (some M):=hgi.trans ⟨Nf.os,Nf.tape,Nf.output,Nf.size,λj hj _=>Nf.block j hj⟩;obtain⟨XR,Yh,HCNT,HSEP,HNE5⟩:=gB Nj TB Tx Zy hne5;clear Nj TB Tx Zy hne5 HI hgi Nf c2;go_wp2_with (at_lookup;refine wpList_lookup_own_int _ rfl _ _ 286 rfl 9 3 .i64 L9 Tryz.underlying286 Tryz.underlying3 (Mo _) M q2 D rfl XR.out _ _ rfl Zt.out ?_)
      intro c0 PB hwc
      have Pn:c0=f2 nm:=by
       have:=Yh.out nm;rw[PB]at this;injection this with h
       injection h
      have Rz:0<=c0:=by rw[Pn];exact M8.1
      have PF:c0<=q2:=by rw[Pn];exact M8.2
      have Sp:=ah Pn;clear PB hwc Pn;go_wp2_with (at_mapUpdate;refine wpList_mapUpdate_own _ rfl _ _ _ 286 rfl 9 3 L9 Tryz.underlying286 (plainElem Tryz.prog 3) M q2 D rfl XR.out (by unfold maxLen;omega) _ _ (.string nm) rfl rfl Zt.out _ [] (plainElem_int Tryz.underlying3 (WalkArith.wf_i64 (by omega))) ?_)
      intro w5 hown5 hgrow5
      have WU:uj M (q2+1) (pg f2 nm) w5:=by
       refine⟨_,hown5,Pg.put _ _,λl=>?_⟩;unfold pg;by_cases e:l=nm
       ·subst e;rw[if_pos rfl,atKey_put_same Pg (show WideAt.IsKeyLit (.string l)from trivial),Sp.out]
       ·rw[if_neg e,atKey_put_other (by intro x;injection x with x;exact e x)];exact Yh.out l
      have WR:=HCNT.out.step nm
      have SE:Hid (aQ w2.heap.size u5 ac w5/\Rd (some ⟨b2,o2,none⟩) ps.length 1 (aF ps) w5):=by refine am ⟨Ez Wh.out.1 hgrow5 (Or.inl HNE5.out),Wh.out.2.grown hgrow5 HPM.out⟩
      have Qc:w2.grownBy w5 (some M):=hgr4.trans hgrow5;obtain⟨X7,OZ⟩:=az WU WR;clear WU WR hown5 hgrow5 hgr4 Wh XR Yh;have V4:Below w.heap.size w w5:=Nk.trans ⟨Qc.os,Qc.tape,Qc.output,Qc.size,λj hj=>Qc.block j (by have:=Nk.size;omega) (by intro x;cases x;omega)⟩
      cases PK:be nm
      ·have ht:OY=none:=by
        have h1:=HD.out;have:jg nm=false:=by unfold jg;rw[PK];rfl
        rw[this,cond_false]at h1;have h2:=So.out;rw[<-h1]at h2;exact h2.symm
       subst ht;have OV:=ah PK;clear PK;go_wp2_with (go_at_call 41;refine(K5.out _).mono ?_;rintro e w6 ⟨rfl,rfl⟩;rw[OV.out])
       go_ret2
       exact iH.none V4
      ·cases Nd:(nm==[42])
       ·have Ok:jg nm=true:=by unfold jg;rw[PK,Nd];rfl
        have h1:=HD.out;rw[Ok,cond_true]at h1;have HN:=ah h1;have OV:=ah PK;clear PK h1 Ok HD;go_wp2_with (first|(go_at_call 41;refine(K5.out _).mono ?_;rintro e w6 ⟨rfl,rfl⟩;rw[OV.out])|(at_lookup;refine wpList_lookup_own_int _ rfl _ _ 286 rfl 9 3 .i64 L9 Tryz.underlying286 Tryz.underlying3 (Mo _) M (q2+1) (X7.out).choose rfl (X7.out).choose_spec.1 _ _ rfl Zt.out ?_))
        intro c3 hat3 hwc3
        have Vb:c3=pg f2 nm nm:=by
         have:=(X7.out).choose_spec.2.2 nm;rw[hat3]at this;injection this with h
         injection h
        have P6:pg f2 nm nm=f2 nm+1:=by unfold pg;rw[if_pos rfl]
        rw[P6]at Vb;have hz:=HCNT.out.2 nm;have Vg:=ah Vb;clear hat3 hwc3 Vb P6
        cases PO:ac.contains nm
        ·have h0:f2 nm=0:=hz.2 PO;have t1:(c3==1)=true:=by rw[Vg.out,h0];rfl
         have Qz:kZ ac nm=ac++[nm]:=by unfold kZ;rw[PO];rfl
         have HADD:=ah Qz;clear hz PO h0 Qz Nd;go_wp2_with (at_builtin;refine gq w2.heap.size nm SE.out.1 Qc.size (by omega) rfl _ _ rfl rfl rfl ?_)
         intro v' w7 hO7 NG hfar7
         have hI7:Hid (aQ w2.heap.size v' (kZ ac nm) w7/\uj M (q2+1) (pg f2 nm) w7/\m_ (pg f2 nm) (kZ ac nm) (q2+1)/\Rd (some ⟨b2,o2,none⟩) ps.length 1 (aF ps) w7/\xM v' (some ⟨b2,o2,none⟩) ps.length):=by obtain⟨r1,r2⟩:=SE.out.2.far hfar7 HSEP.out;refine am ⟨?_,X7.out.far SE.out.1 hfar7,OZ.out,r1,r2⟩;rw[HADD.out];exact hO7
         have hgr7:w2.grownBy w7 (some M):=⟨NG.os.trans Qc.os,NG.tape.trans Qc.tape,NG.output.trans Qc.output,bj Qc.size NG.size,λj hj Ng=>(NG.block j hj).trans (Qc.block j hj Ng)⟩;have N5:=wX ac nm;clear hO7 NG hfar7 SE X7;go_wp2;go_roundw
         case rel=>exact⟨m+1,q2+1,kZ ac nm,pg f2 nm,by omega,by go_num,by omega,by omega,hI7,hgr7,HN⟩
         case measure=>simp[intOf];omega
        ·have h0:f2 nm≠0:=λh=>by have:=hz.1 h;rw[PO]at this;cases this
         have t1:(c3==1)=false:=by rw[beq_eq_false_iff_ne,Vg.out];omega
         have Qz:kZ ac nm=ac:=by unfold kZ;rw[PO];rfl
         have hI7:Hid (aQ w2.heap.size u5 (kZ ac nm) w5/\uj M (q2+1) (pg f2 nm) w5/\m_ (pg f2 nm) (kZ ac nm) (q2+1)/\Rd (some ⟨b2,o2,none⟩) ps.length 1 (aF ps) w5/\xM u5 (some ⟨b2,o2,none⟩) ps.length):=am ⟨by rw[Qz];exact SE.out.1,X7.out,OZ.out,SE.out.2,HSEP.out⟩
         have N5:=wX ac nm;clear hz PO h0 Qz Nd SE X7;go_wp2;go_roundw
         case rel=>exact⟨m+1,q2+1,kZ ac nm,pg f2 nm,by omega,by go_num,by omega,by omega,hI7,Qc,HN⟩
         case measure=>simp[intOf];omega
       ·have ht:OY=none:=by
         have h1:=HD.out;have:jg nm=false:=by unfold jg;rw[PK,Nd];rfl
         rw[this,cond_false]at h1;have h2:=So.out;rw[<-h1]at h2;exact h2.symm
        subst ht;have OV:=ah PK;clear PK;go_wp2_with (go_at_call 41;refine(K5.out _).mono ?_;rintro e w6 ⟨rfl,rfl⟩;rw[OV.out])
        go_ret2
        exact iH.none V4
     ·have Sm:m=ps.length:=by omega
      subst Sm;have h1:=HTP.out;rw[List.drop_length,dA]at h1;have h2:=So.out;rw[<-h1]at h2;have SV:Hid (eG ac (vs.drop (k+1))=OY):=am h2;have hI:=BQ HI.out.1 HI.out.2.1 HI.out.2.2.1;clear HI h1 h2 HTP So;go_wp2;go_roundw
      case rel=>exact⟨k+1,q2,ac,f2,by omega,by go_num,by omega,by omega,hI,hgi,SV⟩
      case measure=>simp[intOf];omega
  ·have NI:k=vs.length:=by omega
   subst NI;have ht:=HT.out;rw[List.drop_length,eG]at ht;subst ht;obtain⟨la,lc,rfl⟩:=HO.out.1.shape;have M_:Below w.heap.size w wr:=Nk.trans ⟨Q_.os,Q_.tape,Q_.output,Q_.size,λj hj=>Q_.block j (by have:=Nk.size;omega) (by intro x;cases x;omega)⟩;go_wp2;go_ret2
   exact⟨la,lc,rfl,HO.out.1.base Nk.size,M_⟩
def ud(e0 e1 e2 e3 e4 e5 e6 e7:Value)(ky bs:ByteArray)(hit:Bool)(dev:ByteArray)(rq:Value)(now:Int)(r0 r1 r2 r3 r4:Value)(right:Bool):Array Value:=#[e0,e1,e2,e3,e4,e5,e6,e7,.string ky,.string bs,.bool hit,.bool false,.int .i64 0,.string ⟨#[]⟩,.int .i64 0,.slice none 0 0,.string ⟨#[]⟩,.int .i64 0,.int .i64 0,.slice none 0 0,.string dev,rq,.int .i64 now,r0,r1,r2,r3,r4,.bool right]
theorem LA(e0 e1 e2 e3 e4 e5 e6 e7 v:Value)(ky bs:ByteArray)(hit:Bool)(dev:ByteArray)(rq:Value)(now:Int)(r0 r1 r2 r3 r4:Value)(right:Bool):(ud e0 e1 e2 e3 e4 e5 e6 e7 ky bs hit dev rq now r0 r1 r2 r3 r4 right).setIfInBounds 3 v=ud e0 e1 e2 v e4 e5 e6 e7 ky bs hit dev rq now r0 r1 r2 r3 r4 right:=by unfold ud;simp only[cH,cI,cF]
theorem Ma(e0 e1 e2 e3 e4 e5 e6 e7 v:Value)(ky bs:ByteArray)(hit:Bool)(dev:ByteArray)(rq:Value)(now:Int)(r0 r1 r2 r3 r4:Value)(right:Bool):(ud e0 e1 e2 e3 e4 e5 e6 e7 ky bs hit dev rq now r0 r1 r2 r3 r4 right).setIfInBounds 7 v=ud e0 e1 e2 e3 e4 e5 e6 v ky bs hit dev rq now r0 r1 r2 r3 r4 right:=by unfold ud;simp only[cH,cI,cF]
theorem tX(w:World)(b:Nat):w.drew.heap[b]?=w.heap[b]?:=rfl
theorem LI{w:World}{b:Nat}{T:TypeId}{e0 e1 e2 e3 e4 e5 e6 e7:Value}(v0 v1 v2 v3 v4 v5 v6 v7:Value){ky bs:ByteArray}{hit:Bool}{dev:ByteArray}{rq:Value}{now:Int}{r0 r1 r2 r3 r4:Value}{right:Bool}(h:w.heap[b]?=some (.cells (ud e0 e1 e2 e3 e4 e5 e6 e7 ky bs hit dev rq now r0 r1 r2 r3 r4 right) T (0,0))):(((((((((w.setCell ⟨b,0,none⟩ v0).setCell ⟨b,1,none⟩ v1).setCell ⟨b,2,none⟩ v2).setCell ⟨b,3,none⟩ v3).setCell ⟨b,4,none⟩ v4).setCell ⟨b,5,none⟩ v5).setCell ⟨b,6,none⟩ v6).setCell ⟨b,7,none⟩ v7).drew).heap[b]?=some (.cells (ud v0 v1 v2 v3 v4 v5 v6 v7 ky bs hit dev rq now r0 r1 r2 r3 r4 right) T (0,0)):=by have h0:=aj (j:=0) (v:=v0) h;have h1:=aj (j:=1) (v:=v1) h0;have h2:=aj (j:=2) (v:=v2) h1;have h3:=aj (j:=3) (v:=v3) h2;have h4:=aj (j:=4) (v:=v4) h3;have h5:=aj (j:=5) (v:=v5) h4;have h6:=aj (j:=6) (v:=v6) h5;have h7:=aj (j:=7) (v:=v7) h6;unfold ud at h7 ⊢;simp only[cH,cI,cF]at h7;exact(tX _ _).trans h7
theorem ap.below{T:Nat}{a b c:World}(h:ap T a b)(k:Below b.heap.size b c)(hT:T<=b.heap.size):ap T a c:=h.trans (ap.of k hT)
theorem ap.refl(T:Nat)(w:World):ap T w w:=⟨aO _ _,λ_ _ _=>rfl⟩
theorem ap.set{T:Nat}{w W:World}(h:ap T w W)(j:Nat)(v:Value):ap T w (W.setCell ⟨T,j,none⟩ v):=h.trans (ap.setCell T j W v)
theorem ap.drew{T:Nat}{w W:World}(h:ap T w W):ap T w W.drew:=⟨h.1.drew,h.2⟩
theorem Kj(b:Nat)(w:World)(v0 v1 v2 v3 v4 v5 v6 v7:Value):ap b w (((((((((w.setCell ⟨b,0,none⟩ v0).setCell ⟨b,1,none⟩ v1).setCell ⟨b,2,none⟩ v2).setCell ⟨b,3,none⟩ v3).setCell ⟨b,4,none⟩ v4).setCell ⟨b,5,none⟩ v5).setCell ⟨b,6,none⟩ v6).setCell ⟨b,7,none⟩ v7).drew):=(((((((((ap.refl b w).set 0 v0).set 1 v1).set 2 v2).set 3 v3).set 4 v4).set 5 v5).set 6 v6).set 7 v7).drew
theorem yg{xs:List aU}{f:aU}(h:f∈aI xs):f∈xs:=(lD.1 (lD.1 h).1).1
theorem oM(xs:List aU):(aI xs).length<=xs.length:=bj (eU _ _) (eU _ _)
theorem pn:∀(vs acc a:List (List UInt8)),eG acc vs=some a->a.length<=acc.length+64*vs.length
 | [],acc,a,h=>by cases h;simp
 |v::r,acc,a,h=>by
  rw[eG]at h
  cases he:((ax 44 v).2==0)<;>rw[he]at h
  ·cases h
  ·rw[cond_true]at h
   cases hp:dA acc (ax 44 v).1 with
   |none=>rw[hp]at h;cases h
   |some b=>
    rw[hp]at h;have h1:=pn r b a h;have h2:=sN _ _ _ hp;have h3:=oD 44 v;rw[cg];omega
theorem qd(xs:List aU):(dw (bz xs)).length<=64*xs.length:=by
 cases h:bz xs with
 |none=>simp[dw]
 |some a=>
  have h1:=pn _ _ _ h;have h2:=cD xs pj;show a.length<=_
  simp at h1;omega
theorem D9{M:Nat}{xs:List aU}(h:∀f∈xs,f.2.length<=M):∀x∈dw (bz xs),x.length<=M:=by
 intro x hx
 cases he:bz xs with
 |none=>rw[he]at hx;simp[dw]at hx
 |some a=>rw[he]at hx;exact(qk h he x hx).2.2
def gg(xs req:List aU):List aU:=bif(bz (aI xs)).isSome then fB (dw (bz (aI xs))) req else []
theorem Jy(b:Nat)(ky bs dev:ByteArray)(F A:Option Addr)(m d n c:Nat)(req xs:List aU)(now st mi:Int)(re bo:ByteArray)(w:World)(hb:w.heap[b]?=some (.cells (ud (.int .i64 0) (.string ⟨#[]⟩) (.int .i64 0) (.slice none 0 0) (.string ⟨#[]⟩) (.int .i64 0) (.int .i64 0) (.slice none 0 0) ky bs false dev (.slice F m d) now (.int .i64 st) (.string re) (.int .i64 mi) (.slice A n c) (.string bo) true) 327 (0,0)))(hr:∀W,ap b w W->Rd A n 2 (aJ xs) W)(hq:∀W,ap b w W->Rd F m 2 (aJ req) W)(hn:n<=56)(hm:m<=100)(hs:aE xs<=100000)(Qo:aE req<=100000)(Nd:200<=st/\st<=999)(Pq:st≠304):Calls Tryz.prog 222 #[.pointer (some ⟨b,0,none⟩)] w λe w'=>e=.returned (.bool false)/\∃a ac v vc,w'.heap[b]?=some (.cells (ud (.int .i64 st) (.string re) (.int .i64 mi) (.slice a (aI xs).length ac) (.string bo) (.int .i64 now) (.int .i64 now) (.slice v (gg xs req).length vc) ky bs false dev (.slice F m d) now (.int .i64 st) (.string re) (.int .i64 mi) (.slice A n c) (.string bo) true) 327 (0,0))/\aM w.heap.size (.slice a (aI xs).length ac) (aI xs) w'/\aM w.heap.size (.slice v (gg xs req).length vc) (gg xs req) w'/\ap b w w':=by
 obtain rfl:=(hr w (ap.refl b w)).fld;have PJ:=λj=>ab hb j
 have c0:w.cell? ⟨b,0,none⟩=some (.int .i64 0):=(PJ 0).1;have c1:w.cell? ⟨b,1,none⟩=some (.string ⟨#[]⟩):=(PJ 1).1;have c2:w.cell? ⟨b,2,none⟩=some (.int .i64 0):=(PJ 2).1;have c3:w.cell? ⟨b,3,none⟩=some (.slice none 0 0):=(PJ 3).1;have c4:w.cell? ⟨b,4,none⟩=some (.string ⟨#[]⟩):=(PJ 4).1;have c5:w.cell? ⟨b,5,none⟩=some (.int .i64 0):=(PJ 5).1;have c6:w.cell? ⟨b,6,none⟩=some (.int .i64 0):=(PJ 6).1;have c7:w.cell? ⟨b,7,none⟩=some (.slice none 0 0):=(PJ 7).1;have c11:w.cell? ⟨b,11,none⟩=some (.bool false):=(PJ 11).1;have c21:w.cell? ⟨b,21,none⟩=some (.slice F m d):=(PJ 21).1;have c22:w.cell? ⟨b,22,none⟩=some (.int .i64 now):=(PJ 22).1;have c23:w.cell? ⟨b,23,none⟩=some (.int .i64 st):=(PJ 23).1;have c24:w.cell? ⟨b,24,none⟩=some (.string re):=(PJ 24).1;have c25:w.cell? ⟨b,25,none⟩=some (.int .i64 mi):=(PJ 25).1;have c26:w.cell? ⟨b,26,none⟩=some (.slice A xs.length c):=(PJ 26).1;have c27:w.cell? ⟨b,27,none⟩=some (.string bo):=(PJ 27).1;have c28:w.cell? ⟨b,28,none⟩=some (.bool true):=(PJ 28).1
 have z0:=(PJ 0).2.1;have z1:=(PJ 1).2.1;have z2:=(PJ 2).2.1;have z3:=(PJ 3).2.1;have z4:=(PJ 4).2.1;have z5:=(PJ 5).2.1;have z6:=(PJ 6).2.1;have z7:=(PJ 7).2.1;have fz:∀j,w.frozen? ⟨b,j,none⟩=false:=λj=>(PJ j).2.1
 have d1:(st / 100==1)=false:=by simp;omega
 have d2:decide ((xs.length:Int)>56)=false:=decide_eq_false (by omega);have d3:(st !=304)=true:=by simpa using Pq
 have d4:decide (st<100)=false:=decide_eq_false (by omega);obtain⟨HB,HR,HQ⟩:=bu hb hr hq;clear hb hr hq PJ;go_enter Tryz.func222,Tryz.ntmps222
 go_upto_region 1 with(fail)
 go_cut [42]from 5 to 42 (λs wx=>s=.bool false/\wx=w)
 case first=>
  cases d5:decide (st>=500)
  all_goals
   go_wp2_with fail
   go_meet;exact⟨rfl,rfl⟩
 case rest=>
 obtain⟨rfl,hwc⟩:=hcut;rw[hwc];clear hwc;go_upto_region 4 with(fail)
 go_cut []from 49 to 64 (λwx=>wx.heap[b]?=some (.cells (ud (.int .i64 st) (.string re) (.int .i64 mi) (.slice A xs.length c) (.string bo) (.int .i64 now) (.int .i64 now) (.slice none 0 0) ky bs false dev (.slice F m d) now (.int .i64 st) (.string re) (.int .i64 mi) (.slice A xs.length c) (.string bo) true) 327 (0,0))/\ap b w wx)
 case first=>
  go_still_tail 16,(by kernel_rfl)
  change wpList _ _ _ _ _ w.drew
  have cd:∀j,w.drew.cell? ⟨b,j,none⟩=w.cell? ⟨b,j,none⟩:=λ_=>rfl
  go_wp2_with fail
  go_meet;exact⟨LI _ _ _ _ _ _ _ _ HB.out,Kj _ _ _ _ _ _ _ _ _ _⟩
 case rest=>
  clear c0 c1 c2 c3 c4 c5 c6 c7 c11 c21 c22 c23 c24 c25 c26 c27 c28 z0 z1 z2 z3 z4 z5 z6 z7 fz d1 d2 d3 d4;obtain⟨M8,N9⟩:=hcut;have hww:=N9.size;have Nc:=ae M8;have c26:=aS M8 26;have hR:=HR.out wc N9;have k1:=vp A xs.length c xs wc hR (by omega) (by omega);obtain⟨QX,HBS,K1⟩:=bu M8 N9 k1;clear M8 N9 k1 hR;go_upto_region 6 with(fail)
  refine K1.out.mono ?_;rintro e w1 ⟨a1,g1,rfl,Nr,M8⟩;obtain⟨W2,Nw⟩:=bg w1 (.cells #[.string uY] 9);have M9:=bm Nw;have k2:=xG a1 (dc xs).length g1 (dc xs) (some ⟨w1.heap.size,0,none⟩) 1 1 [fW] W2 (Nr.rd.2.below M9) (by have:=eU xs (jf xs);show(dL xs (jf xs)).length<=_;omega) (λf hf=>by have:=bM (lD.1 hf).1;omega) (by rw[<-Nw];exact Rd.newS1 w1 fW _) (by decide) (by intro l hl;simp at hl;subst hl;decide);rw[show dL (dc xs) [fW]=aI xs from rfl]at k2;obtain⟨Of,K2⟩:=az Nw k2;have HBt:=ah (bt M8 M9);clear K1 Nw k2 M8 M9 Nr c26;go_wp2_with fail
  rw[Of.out];refine K2.out.mono ?_;rintro e w3 ⟨a2,g2,rfl,NN,Na⟩;have Zk:=bt HBt.out Na;have ho:=NN.base (B':=wc.heap.size) HBt.out.size;have Nu:=(Zk.block b Nc).trans QX.out;have q3:=aS Nu 3;have z3:=(ab Nu 3).2.1;have h5:=aj (j:=3) (v:=.slice a2 (aI xs).length g2) Nu;rw[LA]at h5;have VE:=(HBS.out.below Zk (dF Nc)).set 3 (.slice a2 (aI xs).length g2);have P9:=bi ho (ap.setCell b 3 w3 (.slice a2 (aI xs).length g2)) Nc;have hlt5:b<(w3.setCell ⟨b,3,none⟩ (.slice a2 (aI xs).length g2)).heap.size:=ae h5;obtain⟨H5,HS5,Rk⟩:=bu h5 VE (show aM wc.heap.size (.slice a2 (aI xs).length g2) (aI xs) (w3.setCell ⟨b,3,none⟩ (.slice a2 (aI xs).length g2))from P9);clear K2 Of NN Na Zk ho Nu h5 VE P9 HBt QX HBS;go_upto_region 6 with(fail)
  generalize w3.setCell ⟨b,3,none⟩ (.slice a2 (aI xs).length g2)=W4 at*;have c0:=aS H5.out 0;have c1:=aS H5.out 1;have c2:=aS H5.out 2;have c3:=aS H5.out 3;have c4:=aS H5.out 4;have c7:=aS H5.out 7;have c21:=aS H5.out 21;have hen:=oM xs;have k6:=oq st re mi a2 (aI xs).length g2 bo (aI xs) W4 (aM.rd Rk.out).2 (by omega) (λf hf=>by have:=bM (yg hf);omega);have VZ:=qd (aI xs);have Vo:=D9 (M:=1000000) (xs:=aI xs) (λf hf=>by have:=bM (yg hf);omega);have hve:gg xs req=bif(bz (aI xs)).isSome then fB (dw (bz (aI xs))) req else []:=rfl;obtain⟨V,hV⟩:=aH (gg xs req);rw[hV]at hve;generalize bz (aI xs)=NO at*;obtain⟨K6,HVE,HV,HOM⟩:=bK k6 hve hV Vo;clear k6 hve hV Vo;unfold ID at K6;go_wp2_with fail
  refine K6.out.mono ?_;rintro e w6 ⟨a6,g6,rfl,ZX,NP⟩;have h7:=(NP.block b hlt5).trans H5.out;have QO:=HS5.out.below NP (dF hlt5);have QP:=Rk.out.below NP;have Zu:=ae h7
  cases ON:NO.isSome
  ·have hv:=HVE.out;rw[ON,cond_false]at hv;have HF:=ah (aB h7 (aB QO QP));clear h7 QO QP ZX NP K6;go_wp2_with fail
   go_ret;obtain⟨h7,QO,QP⟩:=HF.out;refine⟨rfl,a2,g2,none,0,?_,QP.base hww,?_,QO⟩
   ·rw[HV.out,hv];exact h7
   ·rw[HV.out,hv];exact aM.nil _ _
  ·have hv:=HVE.out;rw[ON,cond_true]at hv;have hQ:=HQ.out w6 QO;have YV:=hQ.fld;have k8:=Cx a6 (dw NO).length g6 (dw NO) F m d req w6 (aQ.rd ZX).2 (by omega) HOM.out hQ (by omega) (λf hf=>by have:=bM hf;omega);rw[<-hv]at k8;have c21':=aS h7 21;obtain⟨K8,HF,Pe⟩:=bu k8 (aB h7 (aB QO QP)) hv;clear h7 QO QP ZX NP K6 hv k8 hQ YV;go_wp2_with fail
   refine K8.out.mono ?_;rintro e w8 ⟨a8,g8,rfl,Z_,Oa⟩;obtain⟨h7,QO,QP⟩:=HF.out;have h8:=(Oa.block b Zu).trans h7;have hs8:=QO.below Oa (dF Zu);have q7:=aS h8 7;have z7:=(ab h8 7).2.1;have h9:=aj (j:=7) (v:=.slice a8 V.length g8) h8;rw[Ma]at h9;have hs9:=hs8.set 7 (.slice a8 V.length g8);have ho9:=bi (QP.below Oa) (ap.setCell b 7 w8 (.slice a8 V.length g8)) (by omega);have SR:=bi Z_ (ap.setCell b 7 w8 (.slice a8 V.length g8)) Zu;have VH:=ah (aB h9 (aB hs9 (aB ho9 SR)));have hw68:=Oa.size;have hw6:w.heap.size<=w6.heap.size:=QO.size;clear h7 QO QP h8 hs8 h9 hs9 ho9 SR Z_ Oa K8 HF;go_wp2_with fail
   go_ret;obtain⟨h9,hs9,ho9,SR⟩:=VH.out;rw[HV.out];exact⟨rfl,a2,g2,a8,g8,h9,aM.base ho9 hww,aM.base SR hw6,hs9⟩
def ne(sg r0 r1 r2 r3 nw q0 q1 q2 q3 q4 u0 u1 u2 u3 u4 u5 l ag lf sn:Value):Array Value:=#[sg,r0,r1,r2,r3,nw,q0,q1,q2,q3,q4,u0,u1,u2,u3,u4,u5,l,ag,lf,sn]
structure bY where
 sg:Nat
 resp:ByteArray
 asked:Value
 used:Int
 reads:Value
 now:Int
 qm:ByteArray
 qt:ByteArray
 qi:Int
 qf:Value
 qb:ByteArray
 us:ByteArray
 uh:ByteArray
 up:Int
 ua:ByteArray
 uq:ByteArray
 ub:Bool
 l:Value
 age:Int
 left:Int
 seen:Value
def bY.cells(k:bY):Array Value:=ne (.pointer (some ⟨k.sg,0,none⟩)) (.string k.resp) k.asked (.int .i64 k.used) k.reads (.int .i64 k.now) (.string k.qm) (.string k.qt) (.int .i64 k.qi) k.qf (.string k.qb) (.string k.us) (.string k.uh) (.int .i64 k.up) (.string k.ua) (.string k.uq) (.bool k.ub) k.l (.int .i64 k.age) (.int .i64 k.left) k.seen
def aP(X:Nat)(k:bY)(W:World):Prop:=W.heap[X]?=some (.cells k.cells 95 (0,0))
theorem gC:gd 95:=⟨by decide,by decide,by decide,by decide⟩
theorem lF:gd 68:=⟨by decide,by decide,by decide,by decide⟩
section
variable {X:Nat}{k:bY}{W W':World}
theorem aP.below(h:aP X k W)(hb:Below W.heap.size W W'):aP X k W':=(hb.block _ (ae h)).trans h
theorem aP.at(h:aP X k W)(j:Nat):W.cell? ⟨X,j,none⟩=k.cells[j]?/\W.frozen? ⟨X,j,none⟩=false:=⟨(ab h j).1,(ab h j).2.1⟩
theorem aP.setCells(h:aP X k W)(j:Nat)(v:Value):(W.setCell ⟨X,j,none⟩ v).heap[X]?=some (.cells (k.cells.setIfInBounds j v) 95 (0,0)):=aj h
theorem aP.resp(h:aP X k W)(s:ByteArray):aP X { k with resp:=s } (W.setCell ⟨X,1,none⟩ (.string s)):=by have h1:=h.setCells 1 (.string s);unfold aP;unfold bY.cells ne at h1 ⊢;simp only[cH,cI,cF]at h1;exact h1
theorem aP.reads(h:aP X k W)(v:Value):aP X { k with reads:=v } (W.setCell ⟨X,4,none⟩ v):=by have h1:=h.setCells 4 v;unfold aP;unfold bY.cells ne at h1 ⊢;simp only[cH,cI,cF]at h1;exact h1
theorem aP.asked(h:aP X k W)(v:Value):aP X { k with asked:=v } (W.setCell ⟨X,2,none⟩ v):=by have h1:=h.setCells 2 v;unfold aP;unfold bY.cells ne at h1 ⊢;simp only[cH,cI,cF]at h1;exact h1
theorem aP.used(h:aP X k W)(n:Int):aP X { k with used:=n } (W.setCell ⟨X,3,none⟩ (.int .i64 n)):=by have h1:=h.setCells 3 (.int .i64 n);unfold aP;unfold bY.cells ne at h1 ⊢;simp only[cH,cI,cF]at h1;exact h1
theorem aP.age(h:aP X k W)(n:Int):aP X { k with age:=n } (W.setCell ⟨X,18,none⟩ (.int .i64 n)):=by have h1:=h.setCells 18 (.int .i64 n);unfold aP;unfold bY.cells ne at h1 ⊢;simp only[cH,cI,cF]at h1;exact h1
theorem aP.left(h:aP X k W)(n:Int):aP X { k with left:=n } (W.setCell ⟨X,19,none⟩ (.int .i64 n)):=by have h1:=h.setCells 19 (.int .i64 n);unfold aP;unfold bY.cells ne at h1 ⊢;simp only[cH,cI,cF]at h1;exact h1
theorem aP.seen(h:aP X k W)(v:Value):aP X { k with seen:=v } (W.setCell ⟨X,20,none⟩ v):=by have h1:=h.setCells 20 v;unfold aP;unfold bY.cells ne at h1 ⊢;simp only[cH,cI,cF]at h1;exact h1
end
theorem ap.belowX{T:Nat}{a b c:World}(h:ap T a b)(k:Below b.heap.size b c)(hT:T<a.heap.size):ap T a c:=h.below k (bj (dF hT) h.size)
theorem tM(X:Nat)(k:bY)(R:lu)(A:Option Addr)(c:Nat)(w:World)(hC:aP X k w)(hT:dV w)(hr:Rd A R.fields.length 2 (aJ R.fields) w)(hn:R.fields.length<=100000)(hs:aE R.fields<=900000)(Nd:0<=R.status/\R.status<=1000000)(PC:R.reason.length<=9000)(O9:R.body.length<=1000000)(Sk:k.qm=jR)(Ok:(co { R with minor:=1 } false).2=0):Calls Tryz.prog 119 #[.pointer (some ⟨X,0,none⟩),iv R A c] w λe w'=>e=.returned (.tuple #[])/\aP X { k with resp:=⟨(co { R with minor:=1 } false).1.toArray⟩ } w'/\ap X w w':=by
 have Nc:=ae hC;have k1:=λW(hb:Below w.heap.size w W)=>yu { R with minor:=1 } A c false W (hT.on hb) (hr.below hb) hn hs Nd ⟨by simp,by simp⟩ PC O9
 obtain⟨V,hV⟩:=aH (co { R with minor:=1 } false);rw[hV]at k1 Ok ⊢;obtain⟨st,re,mi,xs,bo⟩:=R;unfold iv at*;simp only at k1 hr ⊢
 rw[Ok]at k1;have c6:w.cell? ⟨X,6,none⟩=some (.string jR):=by rw[<-Sk];exact(hC.at 6).1
 have z1:w.frozen? ⟨X,1,none⟩=false:=(hC.at 1).2;obtain⟨W1,Ne⟩:=bg w (.cells #[.int .i64 st,.string ⟨re.toArray⟩,.int .i64 1,.slice A xs.length c,.string ⟨bo.toArray⟩] 41);have M8:=bm Ne;have x1:=dU Ne;have d0:=aS x1 0;have d1:=aS x1 1;have d2:=aS x1 2;have d3:=aS x1 3;have d4:=aS x1 4;have d6:W1.drew.cell? ⟨X,6,none⟩=some (.string jR):=(M8.cell (p:=⟨X,6,none⟩) Nc).trans c6;have QQ:Below w.heap.size w W1.drew:=M8.drew;obtain⟨K1,HC,NC,HB⟩:=bK (k1 _ QQ) hC Ne QQ;clear k1 hr hT hC hV Ne x1 M8 QQ Sk;go_enter Tryz.func119,Tryz.ntmps119
 go_upto_region 2 with(fail)
 rw[NC.out];go_cut [4,5] (λs er wx=>s=.string ⟨V.1.toArray⟩/\er=.int .i64 0/\aP X k wx/\ap X w wx)
 case first=>
  go_region_with (first
   |(go_at_call 167;(with_reducible refine K1.out.mono ?_);rintro e w2 ⟨rfl,M9⟩;have Qt:=HC.out.below (bt HB.out M9);have Nk:=ap.of (bt HB.out M9) (dF Nc))
   |fail)
  all_goals
   go_wp2_with fail
   go_meet;exact⟨rfl,rfl,Qt,Nk⟩
 case rest=>
 obtain⟨rfl,rfl,Qt,Nk⟩:=hcut;have z1:=(Qt.at 1).2;have q1:wc.cell? ⟨X,1,none⟩=some (.string k.resp):=(Qt.at 1).1;obtain⟨HC2,OT⟩:=az Qt Nk;clear Qt Nk K1 HC HB;go_wp2_with fail
 go_end0
 exact⟨rfl,HC2.out.resp _,OT.out.set 1 _⟩
theorem Bv(A:Option Addr)(n c:Nat)(xs:List aU)(w:World)(hr:Rd A n 2 (aJ xs) w)(hn:n<=1000)(hs:aE xs<=100000):Calls Tryz.prog 129 #[.slice A n c,.slice none 0 0] w (eT w (eo xs)):=by
 have QV:=hr.fld;have k1:=vp A n c xs w hr (by omega) (by omega);have SB:aE (dc xs)<=100000:=bj (fK _ _) hs;have QK:(dc xs).length<=1000:=bj (eU _ _) (by omega);have hP:eo xs=dL (dc xs) [jb,fW,oj]:=rfl;rw[hP];generalize dc xs=ys at*;have K1:=ah k1;clear k1 hP hr QV;unfold eT at K1;go_enter Tryz.func129,Tryz.ntmps129
 go_wp2_with fail
 refine K1.out.mono ?_;rintro e w1 ⟨a1,g1,rfl,Nr,M8⟩;have M9:Below w1.heap.size w1 (w1.alloc (.cells #[.string qE,.string uY,.string ⟨#[97,103,101]⟩] 9)):=(aO _ w1).alloc (aw _) _;have On:aQ w1.heap.size (.slice (some ⟨w1.heap.size,0,none⟩) 3 3) [jb,fW,oj] (w1.alloc (.cells #[.string qE,.string uY,.string ⟨#[97,103,101]⟩] 9)):=⟨rfl,Or.inr ⟨w1.heap.size,3,#[.string ⟨jb.toArray⟩,.string ⟨fW.toArray⟩,.string ⟨oj.toArray⟩],rfl,aw _,ay w1 _ _ rfl,aw _,by unfold maxLen;omega,rfl,rfl⟩⟩
 have k3:=xG a1 ys.length g1 ys (some ⟨w1.heap.size,0,none⟩) 3 3 [jb,fW,oj] _ (Nr.rd.2.below M9) (by omega) (λf hf=>by have:=bM hf;omega) (aQ.rd On).2 (by decide) (by intro l hl;simp at hl;rcases hl with rfl|rfl|rfl<;>decide);obtain⟨K3,HB⟩:=az k3 (bt M8 M9);clear Nr M8 M9 K1 On k3;unfold eT at K3;go_wp2_with fail
 refine K3.out.mono ?_;rintro e w4 ⟨a4,g4,rfl,Tr,Nf⟩;have hO:=Tr.base HB.out.size;obtain⟨HO,Pz⟩:=az hO (bt HB.out Nf);clear Tr Nf hO K3;go_wp2_with fail
 go_ret;exact⟨a4,g4,rfl,HO.out,Pz.out⟩
attribute [local go_sem] Oper.semAt_some
theorem Et{F:Fence}{m:Nat}{ops:Array Oper}{rest:List Oper}{o:Oper}{a:Act}{Q:Exit->Act->World->Prop}(B:Nat)(d:da){w:World}{v:Value}{ds:List da}(Nj:eF B v ds w)(hB:B<=w.heap.size)(hn:ds.length<=1000000000)(Ot:o.guard=none)(s x:Operand)(ho:o.op=.call { callee:=.builtin .append,args:=#[s,x],argTypes:=#[77,77] })(hs:a.eval s=v)(hx:a.eval x=.slice (some ⟨w.heap.size,0,none⟩) 1 1)(hK:∀v' w1,eF B v' (ds++[d]) w1->Below B w w1->pD w w1 v v'->wpListIn F m Tryz.prog ops Q rest (a.put o.dst v') w1):wpListIn F m Tryz.prog ops Q (o::rest) a (w.alloc (.cells #[.string ⟨d.name.toArray⟩,.string ⟨d.value.toArray⟩,.bool d.has,.string ⟨d.for_.toArray⟩] 87)):=by
 obtain⟨i0,hi,N_,NZ,N6⟩:=info_parts L5;refine wpListIn_plain Ot λK UI=>?_
 obtain⟨v',w',NQ,h2,h3,_,h5⟩:=run_append_own_at (P:=Tryz.prog) (w.alloc (.cells #[.string ⟨d.name.toArray⟩,.string ⟨d.value.toArray⟩,.bool d.has,.string ⟨d.for_.toArray⟩] 87)) B 77 o.type 87 i0 (.agg #[.string ByteArray.empty,.string ByteArray.empty,.bool false,.string ByteArray.empty]) 4 56 Tryz.underlying77 hi N_ NZ N6 rfl (by decide) v ds.length (cz ds) (World.ownsRow.alloc Nj _) ⟨w.heap.size,0,none⟩ 1 1 (mI d) rfl (by
  intro j u hj;have e:(⟨w.heap.size,0,none⟩:Addr).add j=⟨w.heap.size,j,none⟩:=by unfold Addr.add;split<;>simp_all
  rw[e,cK,<-hj];simp[mI]) (Aw d) (by unfold maxLen;omega) (by omega) (by simp;omega)
 have Qj:pD w w' v v':=vG (o:=.cells #[.string ⟨d.name.toArray⟩,.string ⟨d.value.toArray⟩,.bool d.has,.string ⟨d.for_.toArray⟩] 87) ⟨h3,by
  rcases h5 with h|h
  ·exact Or.inl h
  ·refine Or.inr λg hg=>?_
   rw[h]at hg;have:=lv hg;omega⟩
 unfold Oper.wpIn;refine⟨?_,?_⟩
 ·simp[Oper.about,ho,resolve,Target.leads,Sem.run_pure]
 ·rw[Oper.semAt_plain F _ _ (by rw[ho];intro c RZ;cases RZ)];simp[execOp,ho,resolve,invoke,builtin,hs,hx,NQ,Result.andThen]
  refine UI _ _ (hK v' w' ?_ ((aO B w).grown Qj.1 hB (λk hk=>(World.ownsRow.lt Nj k hk).1)) Qj);unfold eF;rw[bP,r_];exact h2
theorem Ie(A:Option Addr)(n c:Nat)(w:World):Calls Tryz.prog 89 #[.slice A n c] w λe w'=>e=.returned (.func (.func 146) #[] #[.pointer (some ⟨w.heap.size,0,none⟩)])/\w'=w.alloc (.cells #[.slice A n c] 30):=by
 go_enter Tryz.func89,Tryz.ntmps89
 go_wp2;go_ret;exact⟨rfl,rfl⟩
def DI(w:World)(pre:List da)(W:World):Prop:=∃v,W.heap[w.heap.size]?=some (.cells #[v] 77 (0,0))/\eF (w.heap.size+2) v pre W/\Below w.heap.size w W/\w.heap.size+2<=W.heap.size
theorem DI.own{w:World}{B:Nat}(hB:w.heap.size<=B):OwnFrom B (DI w):=by
 rintro pre W W' row ⟨v,h1,h2,h3,h4⟩ hg hr
 have Ng:∀(b:Nat)(cur:Array Value)(e:TypeId)(fz:Nat × Nat),W.heap[b]?=some (.cells cur e fz)->W'.heap[b]?=some (.cells cur e fz):=by
  intro b cur e fz hb
  rw[hg.block b (ae hb) (fun x=>by obtain⟨_,o,ho,hc⟩:=hr b x.symm;rw[hb]at ho;cases ho;cases hc)]
  exact hb
 refine⟨v,Ng _ _ _ _ h1,?_,h3.trans ((aO w.heap.size W).grown hg h3.size (λk hk=>?_)),bj h4 hg.size⟩
 ·obtain⟨g1,g2⟩:=h2;refine⟨g1,?_⟩;rcases g2 with g2|⟨g,cap,cur,hv,hgg,hh,r⟩
  ·exact Or.inl g2
  ·exact Or.inr ⟨g,cap,cur,hv,hgg,Ng _ _ _ _ hh,r⟩
 ·exact bj hB (hr k hk).1
theorem lC(A:Option Addr)(n c:Nat)(vs:List (List UInt8))(w:World)(hM:cq w)(hr:Rd A n 1 (aF vs) w)(hn:n<=10000)(hl:∀v∈vs,v.length<=1000000):Calls Tryz.prog 37 #[.slice A n c] w (du w (bD vs)):=by
 refine(callsIn_wide (n:=6)).1 ?_;refine callsIn_of_wp_marks Tryz.func37 rfl trivial ?_ rfl;simp only[Tryz.ntmps37,List.size_toArray,cg,ic,Nat.reduceAdd,Nat.reduceSub,Array.replicate_succ,Array.replicate_zero,List.push_toArray,List.append_toArray,lp,mr];obtain rfl:=hr.str;obtain⟨W2,Nw⟩:=aH ((w.alloc (.cells #[.slice none 0 0] 77)).alloc (.cells #[.slice A vs.length c] 30));have Nk:Below w.heap.size w W2:=by rw[<-Nw];exact((aO _ w).alloc (aw _) _).alloc (by simp) _
 have z2:W2.heap.size=w.heap.size+2:=by rw[<-Nw];simp
 have Wi:W2.cell? ⟨w.heap.size+1,0,none⟩=some (.slice A vs.length c):=by rw[<-Nw];have:=cK (w.alloc (.cells #[.slice none 0 0] 77)) #[.slice A vs.length c] 30 (0,0) 0;rw[World.size_alloc]at this;exact this
 have hL2:W2.heap[w.heap.size]?=some (.cells #[.slice none 0 0] 77 (0,0)):=by rw[<-Nw];exact(gG _ _ _ (by simp)).trans (World.alloc_heap_new w _)
 have hLc:=aS hL2 0
 have UY:jY W2.heap.size w.heap.size W2:=by
  rintro g ⟨v,hv,hg⟩;rw[hLc]at hv
  cases hv
  cases hg
 have hAA:0<vs.length->∀b o,A=some ⟨b,o,none⟩->b<W2.heap.size/\b≠w.heap.size:=by
  intro h b o e;obtain⟨b',o',e',ZI,_⟩:=hr.2 h;rw[e]at e'
  cases e'
  exact⟨by omega,by omega⟩
 have VV:SeqStopsK Fence.wide (6-1) Tryz.prog 146 #[.pointer (some ⟨w.heap.size+1,0,none⟩)] (λd:da=>#[CT d]) (eK w.heap.size) (λys=>ys=bD vs) (λ_=>True) (64*vs.length) W2:=λl J Jx W hW hJ _ hY h0=>Is w.heap.size (w.heap.size+1) A vs.length c vs W2 (hM.below Nk) (by omega) (Nat.ne_of_lt hM.1) (by omega) Wi (hr.below Nk) hAA UY (by omega) hl 5 (by decide) l J Jx W hW hJ hY h0
 obtain⟨HSEQ,Of,Oo⟩:=bu VV Nw hL2;clear VV Wi UY hAA hr hl hM hLc Nw hL2
 gi_wp2_with (refine⟨trivial,?_⟩;gi_at_call 89;refine(callsIn_wide.2 (Ie _ _ _ _)).mono ?_;rintro e w' ⟨rfl,rfl⟩)
 rw[Of.out]
 refine wpIn_rangeFunc_ownH rfl (by decide) (gf:=146) (lb:=#[.pointer (some ⟨w.heap.size+1,0,none⟩)]) rfl trivial (enters_of Tryz.func146 (by kernel_rfl) rfl)
  HSEQ.out eK.trans (λW l o o' h1 h2 h3 _=>eK.putObj o' h2 h3 (by omega)) (aO _ _) (λ_=>rfl)
  (DI w) (λ_ _ _=>False) (DI.own (by omega)) (λ_ _ _ _ _ hs _ _=>hs) ⟨_,Oo.out,eF.nil _ _,Nk,by omega⟩
  (λx a' W=>∃Bx,w.heap.size+1<Bx/\W.heap[Bx]?=some (.cells #[.string ⟨x.name.toArray⟩,.string ⟨x.value.toArray⟩,.bool x.has,.string ⟨x.for_.toArray⟩] 87 (0,0))/\a'={ tmps:=#[.slice A vs.length c,undef,.slice none 0 0,.pointer (some ⟨w.heap.size,0,none⟩),.pointer (some ⟨Bx,0,none⟩),.slice A vs.length c,.func (.func 146) #[] #[.pointer (some ⟨w.heap.size+1,0,none⟩)],CT x,undef,undef,undef,undef,undef],defers:=[] })
  (fun x a' _ X Y row hs hg hr=>by
   obtain⟨Bx,h1,h2,h3⟩:=hs;refine⟨Bx,h1,?_,h3⟩
   rw[hg.block Bx (ae h2) (fun e=>by obtain⟨_,o,ho,hc⟩:=hr Bx e.symm;rw[h2]at ho;cases ho;cases hc)]
   exact h2)
  ?assign ?body ?done ?stop
 case assign=>
  rintro l pre x W K ⟨v,h1,h2,h3,h4⟩ hK;obtain⟨dn,dv,dh,df⟩:=x;unfold CT at*
  gi_wp2
  have N5:=(aO W.heap.size W).alloc (aw _) (.cells #[.string ⟨dn.toArray⟩,.string ⟨dv.toArray⟩,.bool dh,.string ⟨df.toArray⟩] 87);refine hK _ _ ((KeepsOthers.alloc _ _).from _) (eK.alloc _ W _ (ae h1)) ⟨v,(N5.block _ (ae h1)).trans h1,h2.below N5,h3.trans (N5.mono h3.size),by simp;omega⟩ ⟨W.heap.size,by omega,World.alloc_heap_new W _,rfl⟩
 case body=>
  rintro l pre x a' W hl _ ⟨v,h1,h2,h3,h4⟩ ⟨Bx,hBx,bX,rfl⟩ Nc;obtain⟨dn,dv,dh,df⟩:=x;unfold CT;obtain⟨e0,e1,_⟩:=ab h1 0;have e0':W.cell? ⟨w.heap.size,0,none⟩=some v:=e0;have x0:=(ab bX 0).1;have x1:=(ab bX 1).1;have x2:=(ab bX 2).1;have x3:=(ab bX 3).1;have y0:W.cell? ⟨Bx,0,none⟩=some (.string ⟨dn.toArray⟩):=x0;have y1:W.cell? ⟨Bx,1,none⟩=some (.string ⟨dv.toArray⟩):=x1;have y2:W.cell? ⟨Bx,2,none⟩=some (.bool dh):=x2;have y3:W.cell? ⟨Bx,3,none⟩=some (.string ⟨df.toArray⟩):=x3;have Oe:pre.length<=1000000000:=by omega
  obtain⟨va,vc,rfl⟩:=h2.shape;obtain⟨HO,H1,H3⟩:=bu h2 h1 h3;clear x0 x1 x2 x3 e0 h1 h2 h3 bX
  gi_wp2_with (gi_at_builtin;refine Et (w.heap.size+2) ⟨dn,dv,dh,df⟩ HO.out h4 Oe rfl _ _ rfl rfl rfl ?_;intro v' w1 hO' N4 hfar';obtain⟨Zr,XS,rfl⟩:=hO'.shape;have t0:=(N4.cell (p:=⟨w.heap.size,0,none⟩) (by show w.heap.size<_;omega)).trans e0';have t1:=(N4.frozen (p:=⟨w.heap.size,0,none⟩) (by show w.heap.size<_;omega)).trans e1)
  have Q5:(pre++[(⟨dn,dv,dh,df⟩:da)]).length=pre.length+1:=by simp
  rw[Q5]at hO' hfar';clear Q5
  have Ng:(Value.slice va pre.length vc).ownBlock≠some w.heap.size:=λh=>by have:=(World.ownsRow.lt HO.out _ h).1;omega
  have hkp:=eK.stored hfar' e0' (λg hg=>(World.ownsRow.lt hO' g hg).2) (by omega) Ng
  have hko:KeepsFrom W2.heap.size W (w1.setCell ⟨w.heap.size,0,none⟩ (.slice Zr (pre.length+1) XS)):=by
   refine(KeepsOthers.trans (KeepsOthers.of_grownBy hfar'.1 (λj o hj ho=>?_)) (KeepsOthers.setCell w1 ⟨w.heap.size,0,none⟩ _)).from _;rcases HO.out.2 with⟨hv,_⟩|⟨g,cp,cur,hv,_,hh,_⟩
   ·rw[hv]at hj;cases hj
   ·rw[hv]at hj;cases hj
    rw[hh]at ho;cases ho;rfl
  have Ul:(w1.setCell ⟨w.heap.size,0,none⟩ (.slice Zr (pre.length+1) XS)).heap[w.heap.size]?=some (.cells #[.slice Zr (pre.length+1) XS] 77 (0,0)):=lG ((N4.block _ (by omega)).trans H1.out);have h2':eF (w.heap.size+2) (.slice Zr (pre.length+1) XS) (pre++[(⟨dn,dv,dh,df⟩:da)]) (w1.setCell ⟨w.heap.size,0,none⟩ (.slice Zr (pre.length+1) XS)):=ownsRow_setCell_below (a:=⟨w.heap.size,0,none⟩) hO' (by show w.heap.size<w.heap.size+2;omega) _;have h3':=(H3.out.trans (N4.mono (by omega))).setCell (p:=⟨w.heap.size,0,none⟩) (aw _) (.slice Zr (pre.length+1) XS);have h4':w.heap.size+2<=(w1.setCell ⟨w.heap.size,0,none⟩ (.slice Zr (pre.length+1) XS)).heap.size:=by have:=N4.size;simp;omega
  exact⟨hko,hkp,_,Ul,h2',h3',h4'⟩
 case done=>
  rintro D ys W hD rfl ⟨v,h1,h2,h3,h4⟩ hK;obtain⟨va,vc,rfl⟩:=h2.shape;have e0:=aS h1 0
  gi_wp2
  refine⟨by simp,.inl ⟨_,_,rfl,run_takeDeferred hK,?_⟩⟩;exact⟨_,results_tmp rfl _ _ _,va,vc,rfl,eF.base (ownsRow_putObj h2 _ hK rfl) (by omega),h3.trans (belowK_b (w:=w) (aw _) W D _ _ (by omega) hK rfl rfl)⟩
 case stop=>rintro D c pre W _ _ h _;exact h.elim
structure MC(W:World)(a:Nat)(v0 v1 v2 v3:Value):Prop where
 c0:W.cell? ⟨a,0,none⟩=some v0
 c1:W.cell? ⟨a,1,none⟩=some v1
 c2:W.cell? ⟨a,2,none⟩=some v2
 c3:W.cell? ⟨a,3,none⟩=some v3
 f0:W.frozen? ⟨a,0,none⟩=false
 f1:W.frozen? ⟨a,1,none⟩=false
 f2:W.frozen? ⟨a,2,none⟩=false
 f3:W.frozen? ⟨a,3,none⟩=false
 lt:a<W.heap.size
theorem qg(w:World)(v0 v1 v2 v3:Value)(T:TypeId):MC (w.alloc (.cells #[v0,v1,v2,v3] T)) w.heap.size v0 v1 v2 v3:=⟨cK w _ _ _ 0,cK w _ _ _ 1,cK w _ _ _ 2,cK w _ _ _ 3,World.frozen?_alloc_at _ _ _ _ rfl,World.frozen?_alloc_at _ _ _ _ rfl,World.frozen?_alloc_at _ _ _ _ rfl,World.frozen?_alloc_at _ _ _ _ rfl,by simp⟩
theorem MC.below{W W1:World}{a:Nat}{v0 v1 v2 v3:Value}(h:MC W a v0 v1 v2 v3)(hb:Below W.heap.size W W1):MC W1 a v0 v1 v2 v3:=⟨(hb.cell (p:=⟨a,0,none⟩) h.lt).trans h.c0,(hb.cell (p:=⟨a,1,none⟩) h.lt).trans h.c1,(hb.cell (p:=⟨a,2,none⟩) h.lt).trans h.c2,(hb.cell (p:=⟨a,3,none⟩) h.lt).trans h.c3,(hb.frozen (p:=⟨a,0,none⟩) h.lt).trans h.f0,(hb.frozen (p:=⟨a,1,none⟩) h.lt).trans h.f1,(hb.frozen (p:=⟨a,2,none⟩) h.lt).trans h.f2,(hb.frozen (p:=⟨a,3,none⟩) h.lt).trans h.f3,bE h.lt hb.size⟩
theorem jA{xs:List da}{p:da->Bool}{k:Nat}(h:k<xs.length)(hn:(xs.take k).find? p=none)(hp:p xs[k]=false):(xs.take (k+1)).find? p=none:=by rw[gL h,List.find?_append,hn];simp[hp]
theorem sR{xs:List da}{p:da->Bool}{k:Nat}(h:k<xs.length)(hn:(xs.take k).find? p=none)(hp:p xs[k]=true):xs.find? p=some xs[k]:=by
 have e:xs=xs.take (k+1)++xs.drop (k+1):=(List.take_append_drop _ _).symm;have e2:(xs.take (k+1)).find? p=some xs[k]:=by rw[gL h,List.find?_append,hn];simp[hp]
 have e3:(xs.take (k+1)++xs.drop (k+1)).find? p=some xs[k]:=by rw[List.find?_append,e2];rfl
 rw[<-e]at e3;exact e3
def cP(p:da->Bool)(xs:List da):Int:=match xs.findIdx? p with|some k=>k|none=>-1
theorem EC(T:Nat)(nm:ByteArray)(d:da)(w:World)(hT:w.cell? ⟨T,0,none⟩=some (.string nm))(Qs:T<w.heap.size)(hd:d.name.length<=140737488351232)(QM:nm.size<=140737488351232):Calls Tryz.prog 90 #[.agg #[.string ⟨d.name.toArray⟩,.string ⟨d.value.toArray⟩,.bool d.has,.string ⟨d.for_.toArray⟩],.pointer (some ⟨T,0,none⟩)] w λe w'=>e=.returned (.bool (ai d.name==ai nm.data.toList))/\Below w.heap.size w w':=by
 obtain⟨dn,dv,dh,df⟩:=d;simp only at hd
 have N5:=(aO w.heap.size w).alloc (aw _) (.cells #[.string ⟨dn.toArray⟩,.string ⟨dv.toArray⟩,.bool dh,.string ⟨df.toArray⟩] 87);have k1:=λW=>jD ⟨dn.toArray⟩ nm W (by rw[aY];exact hd) QM
 simp only at k1
 have hT2:=(N5.cell (p:=⟨T,0,none⟩) Qs).trans hT;have K1:=ah k1;clear k1;go_enter Tryz.func90,Tryz.ntmps90
 go_wp2_with fail
 refine(K1.out _).mono ?_;rintro e w1 ⟨rfl,M8⟩;go_wp2;go_ret;exact⟨rfl,N5.trans (M8.mono (by simp))⟩
theorem BD(T:Nat)(nm:ByteArray)(A:Option Addr)(n c:Nat)(xs:List da)(w:World)(hr:Rd A n 4 (cz xs) w)(hn:n<=1000000)(hT:w.cell? ⟨T,0,none⟩=some (.string nm))(Qs:T<w.heap.size)(hx:∀d∈xs,d.name.length<=140737488351232)(QM:nm.size<=140737488351232):Calls Tryz.prog 27 #[.slice A n c,.func (.func 90) #[] #[.pointer (some ⟨T,0,none⟩)]] w λe w'=>e=.returned (.int .i64 (cP (λd=>ai d.name==ai nm.data.toList) xs))/\Below w.heap.size w w':=by
 obtain rfl:=hr.dir;have No:=λk(h:k<xs.length)=>@jA xs (λd=>ai d.name==ai nm.data.toList) k h
 have RT:∀k(h:k<xs.length),(xs.take k).find? (λd=>ai d.name==ai nm.data.toList)=none->(ai (xs[k]).name==ai nm.data.toList)=true->cP (λd=>ai d.name==ai nm.data.toList) xs=k:=by
  intro k h ON hp;unfold cP
  rw[show xs.findIdx? (fun d=>ai d.name==ai nm.data.toList)=some k from by
   rw[List.findIdx?_eq_some_iff_getElem];refine⟨h,hp,λj hj=>?_⟩;rw[mM]at ON;refine ON xs[j] ?_;rw[List.mem_take_iff_getElem];exact⟨j,by omega,rfl⟩]
 have PE:∀k,k=xs.length->(xs.take k).find? (λd=>ai d.name==ai nm.data.toList)=none->cP (λd=>ai d.name==ai nm.data.toList) xs=-1:=by
  intro k hk h;subst hk;rw[eM]at h;unfold cP
  rw[show xs.findIdx? (fun d=>ai d.name==ai nm.data.toList)=none from by
   rw[List.findIdx?_eq_none_iff];rw[mM]at h;intro x hx';simpa using h x hx']
 have hc:=λd W h1 h2 h3=>EC T nm d W h1 h2 h3 QM
 generalize cP (λd=>ai d.name==ai nm.data.toList) xs=out at*;obtain⟨HR,HX,HS,HH⟩:=bK hr hx No RT;obtain⟨HE,HC,HT⟩:=bu PE hc hT;clear hr hx No RT PE hc hT;go_enter Tryz.func27,Tryz.ntmps27
 go_wp2_with fail
 go_loopw [8] (λi wr=>∃k:Nat,k<=xs.length/\i=.int .i64 k/\Hid ((xs.take k).find? (λd=>ai d.name==ai nm.data.toList)=none)/\Below w.heap.size w wr) (λi _=>xs.length-(intOf i).toNat)
 case atStart=>exact⟨0,a_ _,rfl,am (by simp),aO _ _⟩
 case round=>
  obtain⟨k,hk,rfl,HN,Oy⟩:=hrel;by_cases Nc:k<xs.length
  ·obtain⟨b,o,rfl,hl,x0,x1,x2,x3⟩:=(HR.out.below Oy).dir_at (k:=k) Nc;have hd:=HX.out xs[k] (bQ _);have Nd:=HS.out k Nc HN.out;have Uf:=HH.out k Nc HN.out;have k1:=HC.out xs[k] wr ((Oy.cell (p:=⟨T,0,none⟩) Qs).trans HT.out) (bE Qs Oy.size) hd;generalize xs[k]=d at*;obtain⟨dn,dv,dh,df⟩:=d;simp only at x0 x1 x2 x3 hd Nd Uf k1
   cases hq:(ai dn==ai nm.data.toList)
   ·rw[hq]at k1;have RJ:=ah (Nd hq);have K1:=ah k1;clear Nd Uf k1 hq hd HS HH HE HX HN HC;go_wp2_with fail
    refine K1.out.mono ?_;rintro e w1 ⟨rfl,M8⟩;have Ni:=Oy.trans (M8.mono Oy.size);go_wp2;go_roundw
    case rel=>exact⟨k+1,by omega,by go_num,RJ,Ni⟩
    case measure=>simp[intOf];omega
   ·rw[hq]at k1;have ho:=Uf hq;subst ho;have K1:=ah k1;clear Nd Uf k1 hq hd HS HH HE HX HN HC;go_wp2_with fail
    refine K1.out.mono ?_;rintro e w1 ⟨rfl,M8⟩;have Ni:=Oy.trans (M8.mono Oy.size);go_wp2;go_ret;exact⟨rfl,Ni⟩
  ·have ho:=HE.out k (by omega) HN.out;subst ho;clear HS HH HE HX HN HC;go_wp2;go_ret;exact⟨rfl,Oy⟩
theorem gO(p:da->Bool)(xs:List da):(xs.find? p=none/\cP p xs=-1)\/∃k,∃h:k<xs.length,xs.find? p=some xs[k]/\cP p xs=(k:Int):=by
 unfold cP
 cases hi:xs.findIdx? p with
 |none=>
  refine Or.inl ⟨?_,rfl⟩;rw[List.findIdx?_eq_none_iff]at hi;rw[mM];intro x hx;simpa using hi x hx
 |some k=>
  rw[List.findIdx?_eq_some_iff_getElem]at hi;obtain⟨h,hp,ON⟩:=hi;refine Or.inr ⟨k,h,?_,rfl⟩;refine sR h ?_ hp;rw[mM];intro x hx;rw[List.mem_take_iff_getElem]at hx;obtain⟨j,hj,rfl⟩:=hx;have:=ON j (by omega);simpa using this
theorem AE(A:Option Addr)(n c:Nat)(xs:List da)(nm:ByteArray)(w:World)(hr:Rd A n 4 (cz xs) w)(hn:n<=1000000)(hx:∀d∈xs,d.name.length<=140737488351232)(QM:nm.size<=140737488351232):Calls Tryz.prog 38 #[.slice A n c,.string nm] w λe w'=>e=.returned (nT (ml xs nm.data.toList))/\Below w.heap.size w w':=by
 obtain rfl:=hr.dir;obtain⟨W0,Nb⟩:=bg w (.cells #[.string nm] 9);have Nm:=bm Nb;have S9:W0.cell? ⟨w.heap.size,0,none⟩=some (.string nm):=by rw[<-Nb];exact cK w _ _ _ 0
 have z0:W0.heap.size=w.heap.size+1:=by rw[<-Nb];simp
 obtain⟨W1,Ne⟩:=bg W0 lB;have Tt:=bm Ne;have Ni:Below w.heap.size w W1:=Nm.trans (Tt.mono Nm.size);have h4:=qg W0 (.string ⟨#[]⟩) (.string ⟨#[]⟩) (.bool false) (.string ⟨#[]⟩) 87;rw[Ne,z0]at h4;have Ym:w.heap.size<W0.heap.size:=by omega
 have hT:W1.cell? ⟨w.heap.size,0,none⟩=some (.string nm):=(Tt.cell (p:=⟨w.heap.size,0,none⟩) Ym).trans S9;have Qs:w.heap.size<W1.heap.size:=bE Ym Tt.size;have k1:=BD w.heap.size nm A xs.length c xs W1 (hr.below Ni) hn hT Qs hx QM;have NT:=gO (λd=>ai d.name==ai nm.data.toList) xs;have hfo:ml xs nm.data.toList=xs.find? (λd=>ai d.name==ai nm.data.toList):=rfl;rw[hfo];clear hfo;generalize xs.find? (λd=>ai d.name==ai nm.data.toList)=out at*;generalize cP (λd=>ai d.name==ai nm.data.toList) xs=ix at*;obtain⟨HR,Nl,NC,K1⟩:=bK (hr.below Ni) Nb Ne k1;clear hr Nb Ne k1 hx hT S9 z0 Ym;rcases NT with⟨rfl,rfl⟩|⟨k,hk,rfl,rfl⟩
 ·go_enter Tryz.func38,Tryz.ntmps38
  go_wp2_with fail
  rw[Nl.out,NC.out];refine K1.out.mono ?_;rintro e w2 ⟨rfl,M9⟩;have Nk:=Ni.trans (M9.mono Ni.size);obtain⟨g0,g1,g2,g3,q0,q1,q2,q3,VD⟩:=h4.below M9;clear M9;go_wp2_with fail
  refine bodyPost_ret_by (v:=.tuple #[.agg #[.string ⟨#[]⟩,.string ⟨#[]⟩,.bool false,.string ⟨#[]⟩],.bool false]) ?_ rfl ?_
  ·rw[results_cell_tmp rfl];go_simp
  ·exact⟨rfl,(((Nk.setCell (p:=⟨w.heap.size+1,0,none⟩) (fX _) _).setCell (p:=⟨w.heap.size+1,1,none⟩) (fX _) _).setCell (p:=⟨w.heap.size+1,2,none⟩) (fX _) _).setCell (p:=⟨w.heap.size+1,3,none⟩) (fX _) _⟩
 ·obtain⟨d,hd⟩:=aH (xs[k]);rw[hd];have HD:=ah hd;clear hd;obtain⟨dn,dv,dh,df⟩:=d;go_enter Tryz.func38,Tryz.ntmps38
  go_wp2_with fail
  rw[Nl.out,NC.out];refine K1.out.mono ?_;rintro e w2 ⟨rfl,M9⟩;have Nk:=Ni.trans (M9.mono Ni.size);obtain⟨b,o,rfl,hl,x0,x1,x2,x3⟩:=(HR.out.below M9).dir_at (k:=k) hk;rw[HD.out]at x0 x1 x2 x3;simp only at x0 x1 x2 x3
  obtain⟨g0,g1,g2,g3,q0,q1,q2,q3,VD⟩:=h4.below M9;clear M9;go_wp2_with fail
  refine bodyPost_ret_by (v:=.tuple #[.agg #[.string ⟨dn.toArray⟩,.string ⟨dv.toArray⟩,.bool dh,.string ⟨df.toArray⟩],.bool true]) ?_ rfl ?_
  ·rw[results_cell_tmp rfl];go_simp
  ·exact⟨rfl,(((Nk.setCell (p:=⟨w.heap.size+1,0,none⟩) (fX _) _).setCell (p:=⟨w.heap.size+1,1,none⟩) (fX _) _).setCell (p:=⟨w.heap.size+1,2,none⟩) (fX _) _).setCell (p:=⟨w.heap.size+1,3,none⟩) (fX _) _⟩
theorem xp{α β:Type}(f:α->Option β)(l:List α):(l.filterMap f).length<=l.length:=List.length_filterMap_le f l
theorem Cv(v:List UInt8):(oh v).length<=64:=by
 unfold oh wU;refine bj (xp _ _) ?_
 cases((ax 44 v).2==0)
 ·simp
 ·exact iF 44 v
theorem mg:∀(vs:List (List UInt8)),(bD vs).length<=64*vs.length
 | []=>by simp[bD]
 |v::r=>by
  have:=mg r;have h:=Cv v;unfold bD at*;rw[jk,bP,cg];omega
def GL(B:Nat)(d:da):Prop:=be d.name=true/\ai d.name=d.name/\(d.has=false->d.value=[])/\d.for_=[]/\d.name.length<=B
theorem Fo{p:List UInt8}{d:da}{B:Nat}(h:dZ p=some d)(hp:p.length<=B):GL B d:=by
 have hl:=(sK p [61]).1;unfold dZ at h
 have h3:(Lib.cut p [61]).2.2=false->(Lib.cut p [61]).2.1=[]:=by
  unfold Lib.cut;by_cases h0:0<=Lib.index p [61]
  ·rw[if_pos h0];simp
  ·rw[if_neg h0];simp
 generalize Lib.cut p [61]=c at*;obtain⟨a,b,has⟩:=c;simp only at h h3 hl
 cases ht:be a
 ·rw[ht]at h;simp at h
 ·rw[ht]at h;have key:∀v hs,(hs=false->v=[])->GL B ⟨ai a,v,hs,[]⟩:=λv hs hv=>⟨by show be (ai a)=true;rw[EX,ht],qB a,hv,rfl,by show(ai a).length<=B;rw[d_];omega⟩
  simp only[di,cond_false]at h
  cases hb:(has&&!be b)
  ·rw[hb,cond_false]at h;injection h with h
   subst h;exact key _ _ h3
  ·rw[hb,cond_true]at h
   cases hu:mG b with
   |none=>rw[hu]at h;simp at h
   |some s=>
    rw[hu]at h;simp only[Option.map_some,Option.some.injEq]at h;subst h;exact key _ _ (by simp)
theorem Kp{v p:List UInt8}(h:p∈wU v):p.length<=v.length+8:=by
 unfold wU at h
 cases hz:((ax 44 v).2==0)
 ·rw[hz,cond_false,cA]at h;subst h;show 8<=_
  omega
 ·rw[hz,cond_true]at h;have h1:=cG h;have h2:=ci 44 v;omega
theorem sf{vs:List (List UInt8)}{B:Nat}(hv:∀v∈vs,v.length<=B):∀d∈bD vs,GL (B+8) d:=by intro d hd;unfold bD at hd;obtain⟨v,P5,hd⟩:=List.mem_flatMap.1 hd;unfold oh at hd;obtain⟨p,hp,hd⟩:=List.mem_filterMap.1 hd;exact Fo hd (by have:=Kp hp;have:=hv v P5;omega)
theorem eF.one{B g:Nat}{d:da}{w:World}(h:w.heap[g]?=some (.cells (mI d).toArray 87 (0,0)))(hB:B<=g):eF B (.slice (some ⟨g,0,none⟩) 1 1) [d] w:=⟨by simp[cz,mI],Or.inr ⟨g,1,_,rfl,hB,h,by simp,by decide,by simp[mI],by simp[cz,mI]⟩⟩
theorem vQ(w:World):Calls Tryz.prog 63 #[] w (du w [lM]):=by
 go_enter Tryz.func63,Tryz.ntmps63
 go_wp2;go_ret;exact⟨_,_,rfl,eF.one (World.alloc_heap_new w _) (aw _),(aO _ w).alloc (aw _) _⟩
theorem yQ(l:List da)(f:List UInt8):(lj l f).length<=1:=by unfold lj;split<;>simp
theorem eF.setFor{B:Nat}{a:Option Addr}{c:Nat}{d:da}{w:World}(h:eF B (.slice a 1 c) [d] w)(f:List UInt8):∃g,a=some ⟨g,0,none⟩/\B<=g/\(∃u,w.cell? ⟨g,3,none⟩=some u)/\w.frozen? ⟨g,3,none⟩=false/\eF B (.slice a 1 c) [⟨d.name,d.value,d.has,f⟩] (w.setCell ⟨g,3,none⟩ (.string ⟨f.toArray⟩)):=by
 obtain⟨h1,h2⟩:=h;rcases h2 with⟨hv,h0⟩|⟨g,cap,cur,hv,hg,hh,hn,hc,hs,hx⟩
 ·simp at h0
 ·cases hv
  simp only[dM,Nat.one_mul]at hx hs hn;have ND:4<=cur.size:=by omega
  have Nc:g<w.heap.size:=by
   rcases ef g w.heap.size with h'|h'
   ·exact h'
   ·simp[fy h']at hh
  refine⟨g,rfl,hg,⟨cur[3],by simp[World.cell?,hh,show 3<cur.size from by omega]⟩,by simp[World.frozen?,hh],?_⟩;refine⟨by simp[cz,mI],Or.inr ⟨g,c,cur.setIfInBounds 3 (.string ⟨f.toArray⟩),rfl,hg,?_,by simpa using hn,hc,by simpa using hs,?_⟩⟩
  ·simp[World.setCell,fJ,hh]
  ·have e:cur.toList=cz [d]++cur.toList.drop 4:=by rw[<-hx,List.take_append_drop]
   simp only[dM,Nat.one_mul,Array.toList_setIfInBounds];rw[e];simp[cz,mI]
theorem du.nil{w w':World}(h:Below w.heap.size w w'):du w [] (.returned (.slice none 0 0)) w':=⟨none,0,rfl,eF.nil _ _,h⟩
theorem zP(s:ByteArray)(w:World)(hM:cq w)(hs:s.size<=1000000):Calls Tryz.prog 64 #[.string s] w (du w (AL s.data.toList)):=by
 have k1:=iJ s 59 w hs;have OG:=ci 59 s.data.toList;rw[<-aY]at OG
 have hs0:AL s.data.toList=bif(ax 59 s.data.toList).2 !=0 then [lM]else match (ax 59 s.data.toList).1 with
  | [a]=>lj (bD [a]) []
  | [a,b]=>bif be b then lj (bD [a]) b else []
  |_=>[]:=rfl
 rw[hs0];clear hs0;generalize ax 59 s.data.toList=r at*;obtain⟨ps,er⟩:=r;simp only at OG ⊢
 cases hz:(er !=0)
 ·have N_:er=0:=by simpa[bne]using hz
  subst N_;rw[cond_false];have S2:=λp(hp:p∈ps)=>cG hp
  rcases ps with _|⟨p0,_|⟨p1,_|⟨p2,r⟩⟩⟩
  ·have K1:=ah k1;clear k1;go_enter Tryz.func64,Tryz.ntmps64
   go_wp2_with fail
   refine K1.out.mono ?_;rintro e w1 ⟨a1,c1,rfl,Nr,M8⟩;go_wp2;go_ret;exact du.nil M8
  ·show Calls Tryz.prog _ _ w (du w (lj (bD [p0]) []))
   have hp0:p0.length<=1000000:=by have:=S2 p0 (by simp);omega
   clear S2 OG;have k2:=λa1 c1 W(hb:Below w.heap.size w W)(hr:Rd a1 1 1 (aF [p0]) W)=>lC a1 1 c1 [p0] W (hM.below hb) hr (by omega) (by intro v hv;rw[cA.1 hv];exact hp0)
   generalize bD [p0]=ds at*;rcases ds with _|⟨d0,_|⟨d1,dr⟩⟩
   all_goals (
    obtain⟨K1,K2⟩:=az k1 k2;clear k1 k2;go_enter Tryz.func64,Tryz.ntmps64
    go_wp2_with fail
    refine K1.out.mono ?_;rintro e w1 ⟨a1,c1,rfl,Nr,M8⟩;have Vz:=Nr.room;have Rz:1<=c1:=by have:=Vz.2.1;simpa using this
    have R1:=ah Nr.rd.2;clear Nr Vz;go_wp2_with fail
    refine(K2.out _ _ _ M8 R1.out).mono ?_;rintro e w2 ⟨a2,c2,rfl,Nz,M9⟩;have Nk:=bt M8 M9;have NM:=ah (Nz.base M8.size);clear Nz M9)
   ·go_wp2;go_ret;exact du.nil Nk
   ·go_wp2;go_ret;obtain⟨dn,dv,dh,df⟩:=d0;exact⟨_,_,rfl,NM.out,Nk⟩
   ·have t0:(((dr.length:Int)+1+1)!=1)=true:=by simp[bne];omega
    have t1:(((dr.length:Int)+1+1)==1)=false:=by simp;omega
    go_wp2;go_ret;exact du.nil Nk
  ·show Calls Tryz.prog _ _ w (du w (bif be p1 then lj (bD [p0]) p1 else []))
   have hp0:p0.length<=1000000:=by have:=S2 p0 (by simp);omega
   have hp1:p1.length<=1000000:=by have:=S2 p1 (by simp);omega
   clear S2 OG;have k2:=λa1 c1 W(hb:Below w.heap.size w W)(hr:Rd a1 1 1 (aF [p0]) W)=>lC a1 1 c1 [p0] W (hM.below hb) hr (by omega) (by intro v hv;rw[cA.1 hv];exact hp0)
   have k3:=λW=>fR ⟨p1.toArray⟩ W (by rw[aY];exact hp1)
   simp only at k3
   cases ht:be p1
   ·rw[cond_false];rw[ht]at k3;obtain⟨K1,K3⟩:=az k1 k3;clear k1 k2 k3;go_enter Tryz.func64,Tryz.ntmps64
    go_wp2_with fail
    refine K1.out.mono ?_;rintro e w1 ⟨a1,c1,rfl,Nr,M8⟩;obtain⟨b,o,rfl,hl,x1⟩:=Nr.rd.2.str_at (k:=1) (by simp);have x1':w1.cell? ⟨b,o+1,none⟩=some (.string ⟨p1.toArray⟩):=x1;clear x1 Nr;go_wp2_with fail
    refine(K3.out _).mono ?_;rintro e w2 ⟨rfl,rfl⟩;go_wp2;go_ret;exact du.nil M8
   ·rw[cond_true];rw[ht]at k3;have Ng:p1.isEmpty=false:=(jw ht).2;generalize bD [p0]=ds at*;rcases ds with _|⟨d0,_|⟨d1,dr⟩⟩
    all_goals (
     obtain⟨K1,K2,K3,XM⟩:=bK k1 k2 k3 Ng;clear k1 k2 k3 Ng;go_enter Tryz.func64,Tryz.ntmps64
     go_wp2_with fail
     refine K1.out.mono ?_;rintro e w1 ⟨a1,c1,rfl,Nr,M8⟩;have Vz:=Nr.room;have Rz:1<=c1:=by have:=Vz.2.1;simp at this;omega
     obtain⟨b,o,rfl,hl,x1⟩:=Nr.rd.2.str_at (k:=1) (by simp);have x1':w1.cell? ⟨b,o+1,none⟩=some (.string ⟨p1.toArray⟩):=x1
     have O0:Rd (some ⟨b,o,none⟩) 1 1 (aF [p0]) w1:=by
      obtain⟨_,h⟩:=Nr.rd.2;refine⟨rfl,λ_=>?_⟩;obtain⟨b',o',e,ZI,hc⟩:=h (by simp)
      cases e
      refine⟨b,o,rfl,ZI,λj u hu=>hc j u ?_⟩
      match j,hu with
      |0,hu=>exact hu
      |j+1,hu=>simp[aF]at hu
     have R1:=ah O0;clear Nr Vz O0 x1;go_wp2_with fail
     refine(K3.out _).mono ?_;rintro e w2 ⟨rfl,rfl⟩;go_wp2_with fail
     refine(K2.out _ _ _ M8 R1.out).mono ?_;rintro e w2 ⟨a2,c2,rfl,Nz,M9⟩;have Nk:=bt M8 M9;have x2:=(M9.cell (p:=⟨b,o+1,none⟩) hl).trans x1';have VB:=Nz.base M8.size;clear Nz M9 x1')
    ·have NM:=ah VB;clear VB;go_wp2;go_ret;exact du.nil Nk
    ·obtain⟨g,rfl,hg,⟨u,hu⟩,hfz,Po⟩:=VB.setFor p1;obtain⟨NM,Ob⟩:=az VB Po;clear VB Po;go_wp2;go_ret;obtain⟨dn,dv,dh,df⟩:=d0;have:=Ob.out;unfold lj;rw[XM.out];exact⟨_,_,rfl,this,Nk.setCell (by show w.heap.size<=g;omega) _⟩
    ·have NM:=ah VB;clear VB;have t0:(((dr.length:Int)+1+1)!=1)=true:=by simp[bne];omega
     have t1:(((dr.length:Int)+1+1)==1)=false:=by simp;omega
     go_wp2;go_ret;exact du.nil Nk
  ·have K1:=ah k1;clear k1;have t0:(((r.length:Int)+1+1+1)==0)=false:=by simp;omega
   have t1:decide (2<(r.length:Int)+1+1+1)=true:=by simp;omega
   go_enter Tryz.func64,Tryz.ntmps64
   go_wp2_with fail
   refine K1.out.mono ?_;rintro e w1 ⟨a1,c1,rfl,Nr,M8⟩;go_wp2;go_ret;exact du.nil M8
 ·rw[cond_true];have NZ:(er==0)=false:=by simpa[bne]using hz
  have K1:=ah k1;clear k1;go_enter Tryz.func64,Tryz.ntmps64
  go_wp2_with fail
  refine K1.out.mono ?_;rintro e w1 ⟨a1,c1,rfl,Nr,M8⟩;go_wp2_with fail
  refine(vQ _).mono ?_;rintro e w2 ⟨a2,c2,rfl,Nz,M9⟩;have NM:=ah (Nz.base M8.size);have Nk:=bt M8 M9;clear Nz M9 Nr;go_wp2;go_ret;exact⟨_,_,rfl,NM.out,Nk⟩
theorem uy{P:Program}(w:World)(base:Nat)(t ty e:TypeId)(i:TypeInfo)(size c:Nat)(ht:P.underlying t=some (.slice e))(hi:P.info? e=some i)(v:Value)(n:Nat)(xs:List Value)(Nj:w.ownsRow base e size v n xs):(Builtin.append_ #[t,t] ty #[v,.slice none 0 c]).run P w=.ok v w:=by
 rcases Nj.2 with⟨rfl,rfl⟩|⟨g,cap,cur,rfl,_,_,ZY,_⟩
 ·simp[Builtin.append_,run_underlying ht,sizeOf,typeInfo,hi,Builtin.lenOf,Builtin.firstCells]
 ·simp[Builtin.append_,run_underlying ht,sizeOf,typeInfo,hi,Builtin.lenOf,Builtin.firstCells,ZY,storeCells]
theorem FB(ys:List da):∀u∈cz ys,u.oneCell'=true:=by
 intro u hu;unfold cz at hu;obtain⟨f,_,h⟩:=List.mem_flatMap.1 hu;simp[mI]at h
 rcases h with rfl|rfl|rfl|rfl<;>rfl
theorem Fa(xs ys:List da):cz (xs++ys)=cz xs++cz ys:=by unfold cz;simp
theorem AJ{ops:Array Oper}{rest:List Oper}{o:Oper}{a:Act}{Q:Exit->Act->World->Prop}(B:Nat){w:World}{v:Value}{fs:List da}(Nj:eF B v fs w)(hB:B<=w.heap.size){A:Option Addr}{n c:Nat}{ys:List da}(hr:Rd A n 4 (cz ys) w)(hn:fs.length+n<=1000000000)(Ot:o.guard=none)(s x:Operand)(ho:o.op=.call { callee:=.builtin .append,args:=#[s,x],argTypes:=#[77,77] })(hs:a.eval s=v)(hx:a.eval x=.slice A n c)(hK:∀v' w1,eF B v' (fs++ys) w1->Below B w w1->pD w w1 v v'->wpList Tryz.prog ops Q rest (a.put o.dst v') w1):wpList Tryz.prog ops Q (o::rest) a w:=by
 obtain rfl:=hr.dir;obtain⟨i0,hi,N_,NZ,N6⟩:=info_parts L5
 have key:∃v' w1,(Builtin.append_ #[77,77] o.type #[v,.slice A ys.length c]).run Tryz.prog w=.ok v' w1/\eF B v' (fs++ys) w1/\Below B w w1/\pD w w1 v v':=by
  by_cases h0:A=none
  ·subst h0
   have hy:ys.length=0:=by
    rcases mw ys.length with h|h
    ·exact h
    ·obtain⟨b,o',e,_⟩:=hr.2 h;cases e
   have RH:ys=[]:=mz hy;subst RH;refine⟨v,w,uy w B _ _ 87 i0 4 c Tryz.underlying77 hi v _ _ Nj,by rw[e9];exact Nj,aO _ _,⟨⟨rfl,rfl,rfl,aw _,λ_ _ _=>rfl⟩,Or.inl rfl⟩⟩
  ·obtain⟨ad,rfl⟩:=Option.ne_none_iff_exists'.1 h0
   obtain⟨v',w',NQ,h2,h3,_,h5⟩:=run_append_own_at (P:=Tryz.prog) w B 77 o.type 87 i0 (.agg #[.string ByteArray.empty,.string ByteArray.empty,.bool false,.string ByteArray.empty]) 4 56 Tryz.underlying77 hi N_ NZ N6 rfl (by decide) v fs.length (cz fs) Nj ad ys.length c (cz ys) (by rw[pU]) (by
    intro j u hj;have Qd:j<ys.length*4:=by have:=(mj.1 hj).1;rwa [pU]at this
    obtain⟨b,o',e,_,hc⟩:=hr.2 (by omega)
    cases e
    have e2:(⟨b,o',none⟩:Addr).add j=⟨b,o'+j,none⟩:=by unfold Addr.add;split<;>simp_all
    rw[e2];exact hc j u hj) (FB ys) (by unfold maxLen;omega) (by omega) hB
   refine⟨v',w',NQ,?_,(aO B w).grown h3 hB (λk hk=>(World.ownsRow.lt Nj k hk).1),⟨h3,?_⟩⟩
   ·unfold eF;rw[bP,Fa];exact h2
   ·rcases h5 with h|h
    ·exact Or.inl h
    ·refine Or.inr λg hg=>?_
     rw[h]at hg;have:=lv hg;omega
 obtain⟨v',w1,NQ,h1,h2,h3⟩:=key;refine wpList_plain Ot λ_ UI=>?_
 unfold Oper.wp execOp;simp only[ho,resolve,invoke,builtin,Sem.run_bind,Sem.run_pure,Result.andThen_ok,List.map_toArray,bw,List.map_nil,hs,hx,NQ];exact UI _ _ (hK v' w1 h1 h2 h3)
end Go.Proofs.YtdbjnlkbhhebbaaGreatDoor
