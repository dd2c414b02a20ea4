/- Sur9, Sur7, Sur3, Sur10, Sur11, Sur12, Sur13, Top1, Top5, Top6, SgLaw2, TopLaw, Top2, Top3, Top4. -/
import Derived.Test.YtdbjnlkbhhebbaaGreatDoorK01
import Derived.Test.YtdbjnlkbhhebbaaGreatDoorK04
import Derived.Test.YtdbjnlkbhhebbaaGreatDoorK05
import Derived.Test.YtdbjnlkbhhebbaaGreatDoorK06
import Derived.Test.YtdbjnlkbhhebbaaGreatDoorK09
import Derived.Test.YtdbjnlkbhhebbaaGreatDoorK12
import Derived.Test.YtdbjnlkbhhebbaaGreatDoorK13
import Derived.Defers
import Derived.StillTailTactics
import Derived.Laws.ResultCell
import Derived.Deep.RegionHeld3
import Derived.IntWalk
set_option maxRecDepth 100000
set_option maxHeartbeats 16000000
set_option linter.all false
namespace Go.Proofs.YtdbjnlkbhhebbaaGreatDoor
open Go.RowKit
variable {mm nn:Int}{B X bl sb:Nat}{w:World}
theorem Cg(b X:Nat)(k:bY)(sv:Option Addr)(sn sc:Nat)(ls:List (List UInt8))(u:FrameMode)(w:World)(hb:w.cell? ⟨b,0,none⟩=some (.pointer (some ⟨X,0,none⟩)))(hC:aP X k w)(hk:k.reads=.slice none 0 0)(hs:k.seen=.slice sv sn sc)(hR:∀W,ap X w W->Rd sv sn 1 (aF ls) W)(hn:sn<=1000000):CallsD Tryz.prog 121 #[.pointer (some ⟨b,0,none⟩)] u w λe u' w'=>u'=u/\e=.returned (.tuple #[])/\(∃rv rn rc,aP X { k with reads:=.slice rv rn rc } w')/\ap X w w':=by
 have Nc:=ae hC;have c0:w.drew.cell? ⟨b,0,none⟩=some (.pointer (some ⟨X,0,none⟩)):=hb;have c20:w.drew.cell? ⟨X,20,none⟩=some (.slice sv sn sc):=by rw[<-hs];exact(hC.at 20).1
 have kr:=Ew X k sv sn sc ls w.drew (hC.below (aO _ _).drew) hk (λW h=>hR W ((ap.refl X w).drew.trans h)) hn;have KR:=ah kr;clear kr hb hC hk hs hR;go_enter_d Tryz.func121,Tryz.ntmps121
 go_still_tail 5,(by kernel_rfl)
 change wpList _ _ _ _ _ w.drew
 go_wp2_with fail
 refine KR.out.mono ?_;rintro e w2 ⟨rv,rn,rc,rfl,PF,M9⟩;have HF:=ah (aB PF ((ap.refl X w).drew.trans M9));clear PF M9 KR;go_wp2_with fail
 go_end0
 exact⟨rfl,⟨rv,rn,rc,HF.out.1⟩,HF.out.2⟩
theorem CW{P:Program}{c:Code}{K:Act->World->Prop}{Q:Exit->Act->World->Prop}{a:Act}(h:Code.wp P c (Exit.then K (λ_ _ _=>False)) a w):Code.wp P c (Exit.then K Q) a w:=Code.wp_mono (λe a w h=>by cases e<;>first|exact h|exact h.elim) h
theorem qS:gd 91:=⟨by decide,by decide,by decide,by decide⟩
theorem Hk{w0:World}{put:Int}(hl:dS w0 w sb bl nn mm [] put)(X:Nat)(k:bY)(C:B8)(CA F:Option Addr)(cc m d O o om od:Nat)(last:Int)(u:fg)(req:List aU)(oc:Array Value)(b:ByteArray)(rep:lu)(hD:d9 w0)(hT:dV w0)(hE:gD w0)(hC:aP X k w)(hX:w0.heap.size<=X)(hS:w.heap[k.sg]?=some (.cells (rV sb C CA cc last) 68 (0,0)))(hF:∀W,cR X w W->Rd CA C.fwd.length 1 (aF C.fwd) W)(Ti:k.qf=.slice F m d)(hq:∀W,cR X w W->Rd F m 2 (aJ req) W)(VZ:k.l=.slice (some ⟨O,o,none⟩) om od)(Vo:1<=om/\om<=1000000)(hO:w.heap[O]?=some (.cells oc 62 (0,0)))(Tp:oc[o]?=some (.string b))(Nr:oc[o+1]?=some (.bool true))(Ux:k.asked=.slice none 0 0)(QF:k.used=0)(OA:k.seen=.slice none 0 0)(hu:lI u)(hn:C.fwd.length<=16)(hm:m<=100)(Q8:cj u=0)(TF:C.dev.length<=100000)(Pd:(jI C.dev).length<=1000)(PX:∀x∈C.fwd,x.length<=1000)(Qo:aE req<=7500)(PS:(nI u).length<=1000)(QT:jL C.dev C.fwd u req []≠[])(Qf:ep b.data.toList false=(rep,b.size,0))(N9:b.size<=100000)(Nd:200<=rep.status/\rep.status<=999)(Pq:rep.status≠304)(QZ:rep.fields.length<=56)(Tm:aE rep.fields<=7500)(PC:rep.reason.length<=10000)(O9:rep.body.length<=262144)(hp:0<=put/\put<=999)(RR:0<=k.now/\k.now<=253402300799)(Sk:k.qm=jR)(QU:k.reads=.slice none 0 0)(huu:k.us=⟨u.scheme.toArray⟩/\k.uh=⟨u.host.toArray⟩/\k.up=u.port/\k.ua=⟨u.path.toArray⟩/\k.uq=⟨u.query.toArray⟩/\k.ub=u.hasQ)(hqs2:aE req<=7000)(hrs2:aE rep.fields<=7000)(hre2:rep.reason.length<=9000)(QB:((rep.status==200)&&(vj (af (aI rep.fields) jb) C.dev).esi)=false)(Ok:∀nm,(co (rh ⟨rep.status,rep.reason,rep.minor,aI rep.fields,rep.body⟩ (iI (dz (aI rep.fields) k.now k.now k.now)).data.toList nm) false).2=0):Calls Tryz.prog 77 #[.pointer (some ⟨X,0,none⟩)] w λe w'=>e=.returned (.tuple #[])/\∃k' NE put',aP X k' w'/\k'.resp=⟨(co (rh ⟨rep.status,rep.reason,rep.minor,aI rep.fields,rep.body⟩ (iI (dz (aI rep.fields) k.now k.now k.now)).data.toList ((rep.status==200)&&jr req (aI rep.fields) k.now)) false).1.toArray⟩/\(∃aa ca,k'.asked=.slice aa 1 ca)/\k'.used=1/\(∃rv rn rc,k'.reads=.slice rv rn rc)/\dS w0 w' sb bl nn mm NE put'/\put<=put'/\put'<=put+1/\cR X w w':=by
 have VT:=wG;have Nc:=ae hC;have Ol:=hl.base;obtain⟨W0,Nb⟩:=bg w (.cells #[.pointer (some ⟨X,0,none⟩)] 91);have bZ:=bm Nb;have z0:W0.heap.size=w.heap.size+1:=by rw[<-Nb];simp
 have Nm:=dU Nb;have ko:=λW(hb:Below W0.heap.size W0 W)=>AS (hl.below (bt bZ hb)) X k C CA F cc m d O o om od last u req oc b rep hD hT hE (hC.below (bt bZ hb)) hX (((bt bZ hb).block _ (ae hS)).trans hS) (λW' hk=>hF W' ((cR.kept (de.of_below (bt bZ hb))).trans hk)) Ti (λW' hk=>hq W' ((cR.kept (de.of_below (bt bZ hb))).trans hk)) VZ Vo (((bt bZ hb).block _ (ae hO)).trans hO) Tp Nr Ux QF OA hu hn hm Q8 TF Pd PX Qo PS QT Qf N9 Nd Pq QZ Tm PC O9 hp RR
 have kd:=λW(h:Below w0.heap.size w0 W)=>(⟨hD.below h,hT.on h⟩:d9 W/\dV W)
 obtain⟨T0,Ou,KO,BZ,Nl,HUU⟩:=eN (hC.below bZ) Nm ko bZ Nb huu;obtain⟨UD,Xo,HQ,HQF⟩:=bK QB Ok hq Ti;obtain⟨HQM,Vl,KD⟩:=bu Sk QU kd;have XM:Hid (w.heap.size≠X):=am (by omega);have Tv:Hid (w.heap.size+1<=W0.heap.size):=am (by omega);obtain⟨HLX,Zp⟩:=az Nc hX;have hen:(aI rep.fields).length<=100:=bj (oM rep.fields) (by omega);have hes2:aE (aI rep.fields)<=7000:=bj (sJ rep.fields) hrs2;clear ko kd hC Nm bZ Nb huu QB Ok hq Ti Sk QU hl hS hF VZ hO Tp Nr Ux QF OA hu PX Qf QT hD hT hE Ol hX Q8 z0;unfold dR at KO;unfold cW at KO;go_enter_defers Tryz.func77,Tryz.ntmps77
 go_upto_region 1 with(fail)
 rw[Nl.out];clear Nl;go_cut [2]from 11 to 16 (λp wx=>∃R a ac nv RW nc left NE put' aa ca sv sn sc,p=.pointer (some ⟨R,0,none⟩)/\w.heap.size+1<=R/\wx.heap[R]?=some (.cells #[.int .i64 rep.status,.string ⟨rep.reason.toArray⟩,.int .i64 rep.minor,.slice a (aI rep.fields).length ac,.string ⟨rep.body.toArray⟩,.int .i64 2,.int .i64 (dz (aI rep.fields) k.now k.now k.now),.int .i64 left,.bool false,.slice nv RW nc] 207 (0,0))/\wx.heap[w.heap.size]?=some (.cells #[.pointer (some ⟨X,0,none⟩)] 91 (0,0))/\aM (w.heap.size+1) (.slice a (aI rep.fields).length ac) (aI rep.fields) wx/\(∃names,sn<=4000/\aQ (w.heap.size+1) (.slice sv sn sc) names wx)/\aP X { k with asked:=.slice aa 1 ca,used:=1,seen:=.slice sv sn sc,age:=max k.age (dz (aI rep.fields) k.now k.now k.now),left:=min k.left left } wx/\dS w0 wx sb bl nn mm NE put'/\put<=put'/\put'<=put+1/\cR X w wx)
 case first=>
  have kc:∀w' k',aP X k' w'->w'.heap[w.heap.size]?=some (.cells #[.pointer (some ⟨X,0,none⟩)] 91 (0,0))->k'.us=k.us->k'.uh=k.uh->k'.up=k.up->k'.ua=k.ua->k'.uq=k.uq->k'.ub=k.ub->w'.cell? ⟨w.heap.size,0,none⟩=some (.pointer (some ⟨X,0,none⟩))/\w'.cell? ⟨X,11,none⟩=some (.string ⟨u.scheme.toArray⟩)/\w'.cell? ⟨X,12,none⟩=some (.string ⟨u.host.toArray⟩)/\w'.cell? ⟨X,13,none⟩=some (.int .i64 u.port)/\w'.cell? ⟨X,14,none⟩=some (.string ⟨u.path.toArray⟩)/\w'.cell? ⟨X,15,none⟩=some (.string ⟨u.query.toArray⟩)/\w'.cell? ⟨X,16,none⟩=some (.bool u.hasQ):=λW k' h hb e1 e2 e3 e4 e5 e6=>by obtain⟨y1,y2,y3,y4,y5,y6⟩:=HUU.out;exact⟨(ab hb 0).1,by rw[(h.at 11).1,<-y1,<-e1];rfl,by rw[(h.at 12).1,<-y2,<-e2];rfl,by rw[(h.at 13).1,<-y3,<-e3];rfl,by rw[(h.at 14).1,<-y4,<-e4];rfl,by rw[(h.at 15).1,<-y5,<-e5];rfl,by rw[(h.at 16).1,<-y6,<-e6];rfl⟩
  have KC:=ah kc;clear kc;refine CW ?_;refine wp_region_held_drew (S:=λw'=>w'.cell? ⟨w.heap.size,0,none⟩=some (.pointer (some ⟨X,0,none⟩))/\w'.cell? ⟨X,11,none⟩=some (.string ⟨u.scheme.toArray⟩)/\w'.cell? ⟨X,12,none⟩=some (.string ⟨u.host.toArray⟩)/\w'.cell? ⟨X,13,none⟩=some (.int .i64 u.port)/\w'.cell? ⟨X,14,none⟩=some (.string ⟨u.path.toArray⟩)/\w'.cell? ⟨X,15,none⟩=some (.string ⟨u.query.toArray⟩)/\w'.cell? ⟨X,16,none⟩=some (.bool u.hasQ)) (by kernel_rfl) (KC.out W0.drew k (show aP X k W0.drew from T0.out) (show W0.drew.heap[w.heap.size]?=_ from Ou.out) rfl rfl rfl rfl rfl rfl) (λM7=>?_);refine aX 0 1 2 3 M7 ?_;refine fM 4 M7 ?_;refine wpAnyH_ready (rs:=[5,6]) (by kernel_rfl) (by simp) (AllReadyH.cons lW (λK hK=>?_) (AllReadyH.cons lW (λK hK=>?_) AllReadyH.nil))
  ·rw[if_pos (by rfl)];go_simp;refine(KO.out W0.drew ((aO _ W0).drew)).mono ?_;rintro e w6 ⟨a,ac,nv,RW,nc,left,esi,NE,put',aa,ca,sv,sn,sc,rfl,UT,Qv,⟨names,T7,Qr⟩,Rf,S5,Qq,QH,PH⟩;rw[UD.out]at UT;subst UT;have NP:=PH.blk Ou.out qS XM.out;have hz6:=PH.1;have Ze:=ah (aB S5 (aB Qq QH));have Rp:=ah Rf;have Qu:=ah NP;have Rr:=ah (((cR.kept (de.of_below BZ.out.drew)).trans PH));have Pu:=aM.base (B':=w.heap.size+1) Qv Tv.out;have PM:=aQ.base (B':=w.heap.size+1) Qr Tv.out;clear S5 PH Qv Qr Rf NP Qq QH;go_wp2_with fail
   refine hK.out _ _ (KC.out _ _ Rp.out Qu.out rfl rfl rfl rfl rfl rfl) (λM7=>?_);clear hK K
   try simp only[Act.put,go,gk,gn]
   have b7:=aV w6 lq;have HC7:=ah (Rp.out.below b7);have Wl:=ah ((b7.block _ (ae Qu.out)).trans Qu.out);clear b7;refine cL 6 λK hK=>?_
   go_simp;refine hK.out _ _ (KC.out _ _ HC7.out Wl.out rfl rfl rfl rfl rfl rfl) (λM7=>?_);clear hK K
   try simp only[Act.put,go,gk,gn]
   have b8:=aV w6 (.cells #[.int .i64 rep.status,.string ⟨rep.reason.toArray⟩,.int .i64 rep.minor,.slice a (aI rep.fields).length ac,.string ⟨rep.body.toArray⟩,.int .i64 2,.int .i64 (dz (aI rep.fields) k.now k.now k.now),.int .i64 left,.bool false,.slice nv RW nc] 207);have HC8:=ah (Rp.out.below b8);have HB8:=ah ((b8.block _ (ae Qu.out)).trans Qu.out)
   have HF:=ah (aB (ay w6 (.cells #[.int .i64 rep.status,.string ⟨rep.reason.toArray⟩,.int .i64 rep.minor,.slice a (aI rep.fields).length ac,.string ⟨rep.body.toArray⟩,.int .i64 2,.int .i64 (dz (aI rep.fields) k.now k.now k.now),.int .i64 left,.bool false,.slice nv RW nc] 207) _ rfl) (aB HB8.out (aB (aM.below Pu b8) (aB (⟨names,T7,aQ.below PM b8⟩:∃names,sn<=4000/\aQ (w.heap.size+1) (.slice sv sn sc) names (w6.alloc (.cells #[.int .i64 rep.status,.string ⟨rep.reason.toArray⟩,.int .i64 rep.minor,.slice a (aI rep.fields).length ac,.string ⟨rep.body.toArray⟩,.int .i64 2,.int .i64 (dz (aI rep.fields) k.now k.now k.now),.int .i64 left,.bool false,.slice nv RW nc] 207))) (aB HC8.out (aB (Ze.out.1.below b8) (aB Ze.out.2.1 (aB Ze.out.2.2 (Rr.out.below b8)))))))))
   have hz8:w.heap.size+1<=w6.heap.size:=by have:=Tv.out;have:W0.heap.size<=w6.heap.size:=hz6;omega
   refine cL 7 λK hK=>?_
   go_simp;refine hK.out _ _ (KC.out _ _ HC8.out HB8.out rfl rfl rfl rfl rfl rfl) (λM7=>?_);clear hK K
   try simp only[Act.put,go,gk,gn]
   refine wpAnyH_done (by kernel_rfl) ?_ _;clear M7;clear b8 Pu PM;go_wp2_with fail
   go_meet;exact⟨_,a,ac,nv,RW,nc,left,NE,put',aa,ca,sv,sn,sc,rfl,hz8,HF.out⟩
  ·rw[if_pos (by rfl)];go_simp;obtain⟨WA,NK⟩:=aH ((W0.alloc lq).drew);have bA:Below W0.heap.size W0 WA:=by rw[<-NK];exact(aV W0 lq).drew
   have Np:WA.heap[W0.heap.size]?=some (.cells (cW (.int .i64 0) (.string ⟨#[]⟩) (.int .i64 0) (.slice none 0 0) (.string ⟨#[]⟩) (.int .i64 0) (.int .i64 0) (.int .i64 0) (.bool false) (.slice none 0 0)) 207 (0,0)):=by rw[<-NK];exact ay W0 _ _ rfl
   have HCA:=ah (T0.out.below bA);have HBA:=ah ((bA.block _ (ae Ou.out)).trans Ou.out);have BA:=ah bA;have Nx:=ae Np;rw[NK];clear NK bA;refine hK.out _ _ (KC.out _ k HCA.out HBA.out rfl rfl rfl rfl rfl rfl) (λM7=>?_);clear hK K
   try simp only[Act.put,go,gk,gn]
   refine cL 5 λK hK=>?_
   go_simp;refine(KO.out WA BA.out).mono ?_;rintro e w6 ⟨a,ac,nv,RW,nc,left,esi,NE,put',aa,ca,sv,sn,sc,rfl,UT,Qv,⟨names,T7,Qr⟩,Rf,S5,Qq,QH,PH⟩;rw[UD.out]at UT;subst UT;have NP:=PH.blk HBA.out qS XM.out;have Nt:=PH.blk Np gJ (by have:=HLX.out;have:=Tv.out;omega);have Ze:=ah (aB S5 (aB Qq QH));have Rp:=ah Rf;have Qu:=ah NP;have Rr:=ah ((cR.kept (de.of_below (bt BZ.out BA.out))).trans PH);have Pu:=aM.base (B':=W0.heap.size+1) Qv Nx;have PM:=aQ.base (B':=W0.heap.size+1) Qr Nx;clear S5 PH Qv Qr Rf NP Qq QH Np;go_wp2_with fail
   refine hK.out _ _ (KC.out _ _ Rp.out Qu.out rfl rfl rfl rfl rfl rfl) (λM7=>?_);clear hK K
   try simp only[Act.put,go,gk,gn]
   have y0:=aS Nt 0;have y1:=aS Nt 1;have y2:=aS Nt 2;have y3:=aS Nt 3;have y4:=aS Nt 4;have y5:=aS Nt 5;have y6:=aS Nt 6;have y7:=aS Nt 7;have y8:=aS Nt 8;have y9:=aS Nt 9;have x0:=λj:Nat=>(ab Nt j).2.1
   have Oe:=DC (.int .i64 rep.status) (.string ⟨rep.reason.toArray⟩) (.int .i64 rep.minor) (.slice a (aI rep.fields).length ac) (.string ⟨rep.body.toArray⟩) (.int .i64 2) (.int .i64 (dz (aI rep.fields) k.now k.now k.now)) (.int .i64 left) (.bool false) (.slice nv RW nc) Nt;unfold cW at Oe;have N9:=pA W0.heap.size w6 (.int .i64 rep.status) (.string ⟨rep.reason.toArray⟩) (.int .i64 rep.minor) (.slice a (aI rep.fields).length ac) (.string ⟨rep.body.toArray⟩) (.int .i64 2) (.int .i64 (dz (aI rep.fields) k.now k.now k.now)) (.int .i64 left) (.bool false) (.slice nv RW nc);have hltw:=HLX.out;have hzz:=Tv.out;have VJ:=Zp.out
   have HC8:Hid (aP X { k with asked:=.slice aa 1 ca,used:=1,seen:=.slice sv sn sc,age:=max k.age (dz (aI rep.fields) k.now k.now k.now),left:=min k.left left } ((((((((((w6.setCell ⟨W0.heap.size,0,none⟩ (.int .i64 rep.status)).setCell ⟨W0.heap.size,1,none⟩ (.string ⟨rep.reason.toArray⟩)).setCell ⟨W0.heap.size,2,none⟩ (.int .i64 rep.minor)).setCell ⟨W0.heap.size,3,none⟩ (.slice a (aI rep.fields).length ac)).setCell ⟨W0.heap.size,4,none⟩ (.string ⟨rep.body.toArray⟩)).setCell ⟨W0.heap.size,5,none⟩ (.int .i64 2)).setCell ⟨W0.heap.size,6,none⟩ (.int .i64 (dz (aI rep.fields) k.now k.now k.now))).setCell ⟨W0.heap.size,7,none⟩ (.int .i64 left)).setCell ⟨W0.heap.size,8,none⟩ (.bool false)).setCell ⟨W0.heap.size,9,none⟩ (.slice nv RW nc))):=am ((N9.2 _ (ae Rp.out) (by omega)).trans Rp.out);have HB8:=ah ((N9.2 _ (ae Qu.out) (by omega)).trans Qu.out)
   have Wz:=Ze.out.1.beside Nt gJ (by omega) N9;have hk8:cR X w ((((((((((w6.setCell ⟨W0.heap.size,0,none⟩ (.int .i64 rep.status)).setCell ⟨W0.heap.size,1,none⟩ (.string ⟨rep.reason.toArray⟩)).setCell ⟨W0.heap.size,2,none⟩ (.int .i64 rep.minor)).setCell ⟨W0.heap.size,3,none⟩ (.slice a (aI rep.fields).length ac)).setCell ⟨W0.heap.size,4,none⟩ (.string ⟨rep.body.toArray⟩)).setCell ⟨W0.heap.size,5,none⟩ (.int .i64 2)).setCell ⟨W0.heap.size,6,none⟩ (.int .i64 (dz (aI rep.fields) k.now k.now k.now))).setCell ⟨W0.heap.size,7,none⟩ (.int .i64 left)).setCell ⟨W0.heap.size,8,none⟩ (.bool false)).setCell ⟨W0.heap.size,9,none⟩ (.slice nv RW nc)):=⟨bj Rr.out.1 N9.size,λg cs Y z h1 h2 h3 h4 h5=>by have h6:=Rr.out.2 g cs Y z h1 h2 h3 h4 h5;exact(N9.2 g (ae h6) (by have:=ae h1;omega)).trans h6⟩
   have U1:=aM.base (B':=w.heap.size+1) (bi Pu N9 (Nat.lt_succ_self _)) (by omega);have Rq:=aQ.base (B':=w.heap.size+1) (bi PM N9 (Nat.lt_succ_self _)) (by omega)
   have HF:=ah (aB Oe (aB HB8.out (aB U1 (aB (⟨names,T7,Rq⟩:∃names,sn<=4000/\aQ (w.heap.size+1) (.slice sv sn sc) names ((((((((((w6.setCell ⟨W0.heap.size,0,none⟩ (.int .i64 rep.status)).setCell ⟨W0.heap.size,1,none⟩ (.string ⟨rep.reason.toArray⟩)).setCell ⟨W0.heap.size,2,none⟩ (.int .i64 rep.minor)).setCell ⟨W0.heap.size,3,none⟩ (.slice a (aI rep.fields).length ac)).setCell ⟨W0.heap.size,4,none⟩ (.string ⟨rep.body.toArray⟩)).setCell ⟨W0.heap.size,5,none⟩ (.int .i64 2)).setCell ⟨W0.heap.size,6,none⟩ (.int .i64 (dz (aI rep.fields) k.now k.now k.now))).setCell ⟨W0.heap.size,7,none⟩ (.int .i64 left)).setCell ⟨W0.heap.size,8,none⟩ (.bool false)).setCell ⟨W0.heap.size,9,none⟩ (.slice nv RW nc))) (aB HC8.out (aB Wz (aB Ze.out.2.1 (aB Ze.out.2.2 hk8))))))));clear Pu PM U1 Rq Oe N9 Wz hk8
   refine cL 7 λK hK=>?_
   go_simp;refine hK.out _ _ (KC.out _ _ HC8.out HB8.out rfl rfl rfl rfl rfl rfl) (λM7=>?_);clear hK K
   try simp only[Act.put,go,gk,gn]
   refine wpAnyH_done (by kernel_rfl) ?_ _;clear M7;go_wp2_with fail
   go_meet;exact⟨_,a,ac,nv,RW,nc,left,NE,put',aa,ca,sv,sn,sc,rfl,by omega,HF.out⟩
 case rest=>
 clear KO T0 Ou HUU UD;obtain⟨R,a,ac,nv,RW,nc,left,NE,put',aa,ca,sv,sn,sc,rfl,hzR,hR,TI,Pu,⟨names,T7,PM⟩,hc,Z8,Ut,Ur,hk⟩:=hcut;obtain⟨W1,rfl⟩:∃W,W=wc:=⟨_,rfl⟩;obtain⟨OX,ht1⟩:=KD.out W1 Z8.base;have kr:=E0 X { k with asked:=.slice aa 1 ca,used:=1,seen:=.slice sv sn sc,age:=max k.age (dz (aI rep.fields) k.now k.now k.now),left:=min k.left left } rep.status rep.minor 2 (dz (aI rep.fields) k.now k.now k.now) left ⟨rep.reason.toArray⟩ ⟨rep.body.toArray⟩ a ac false nv RW nc (aI rep.fields) req F m d W1 hc OX ht1 HQM.out HQF.out (HQ.out W1 hk) hm hqs2 (aM.rd Pu).2 hen hes2 ⟨by omega,by omega⟩ (by rw[dj];exact hre2) (by rw[dj];omega) Xo.out;unfold cW at kr;have r0:=aS hR 0;have r1:=aS hR 1;have r2:=aS hR 2;have r3:=aS hR 3;have r4:=aS hR 4;have r5:=aS hR 5;have r6:=aS hR 6;have r7:=aS hR 7;have r8:=aS hR 8;have r9:=aS hR 9
 have b0:=aS TI 0;obtain⟨KR,T5,Xw,HLV,HKK,HCC⟩:=eN kr TI PM Z8 hk hc;clear kr TI PM Z8 hk hc Pu hR OX ht1;go_wp2_with fail
 refine KR.out.mono ?_;rintro e w2 ⟨rfl,PF,M9⟩;have hbx2:=(M9.2 _ (ae T5.out) XM.out).trans T5.out;have c2:=aS hbx2 0;have Rq:=bi Xw.out M9 (by have:=HLX.out;omega);have Nq:=HLV.out.beside HCC.out gC Zp.out M9;have hk2':=HKK.out.trans (cR.beside M9);have Su:=am (aQ.rd Rq).1;have hdf:=Cg w.heap.size X _ sv sn sc names .returning w2 c2 PF Vl.out rfl (λW hW=>by rw[Su.out];exact(aQ.rd (bi Rq hW (by have:=HLX.out;omega))).2) (by omega);obtain⟨HDF,HF⟩:=az hdf (aB Nq (aB hk2' PF));clear hdf Nq hk2' PF M9 hbx2 Rq KR;go_wp2_with fail
 refine leaves_cons (f:=121) (args:=#[.pointer (some ⟨w.heap.size,0,none⟩)]) (by simp) (by simp[go_sem]) ?_;refine HDF.out.mono ?_;rintro e u' w3 ⟨rfl,rfl,⟨rv,rn,rc,Vb⟩,Na⟩;refine⟨.tuple #[],?_,rfl,_,NE,put',Vb,rfl,⟨aa,ca,rfl⟩,rfl,⟨rv,rn,rc,rfl⟩,HF.out.1.beside HF.out.2.2 gC Zp.out Na,Ut,Ur,HF.out.2.1.trans (cR.beside Na)⟩;simp[results,Tryz.results77,go_sem]
theorem Ae(X:Nat)(k:bY)(F:Option Addr)(m d:Nat)(req:List aU)(home:List UInt8)(me:List UInt8)(bo:List UInt8)(w:World)(hC:aP X k w)(hM:cq w)(hT:dV w)(hE:gD w)(Ti:k.qf=.slice F m d)(YB:k.qi=1)(hq:Rd F m 2 (aJ req) w)(hm:m<=1000)(Qo:aE req<=100000)(hqt:k.qt.size<=100000):Calls Tryz.prog 76 #[.pointer (some ⟨X,0,none⟩)] w λe w'=>e=.returned (.tuple #[dR (fx home ⟨me,k.qt.data.toList,1,req,bo⟩).1,.bool (fx home ⟨me,k.qt.data.toList,1,req,bo⟩).2])/\Below w.heap.size w w':=by
 have Nc:=ae hC;obtain rfl:=hq.fld;obtain⟨W0,Nb⟩:=bg w Kk;have b0:=bm Nb;have z0:W0.heap.size=w.heap.size+1:=by rw[<-Nb];simp
 have hU0:gu w.heap.size ⟨#[]⟩ ⟨#[]⟩ 0 ⟨#[]⟩ ⟨#[]⟩ false W0:=by rw[<-Nb];exact ay w _ _ rfl
 have Td:=hC.below b0;have c7:W0.cell? ⟨X,7,none⟩=some (.string k.qt):=(Td.at 7).1;have c8:W0.cell? ⟨X,8,none⟩=some (.int .i64 1):=by rw[<-YB];exact(Td.at 8).1
 have c9:W0.cell? ⟨X,9,none⟩=some (.slice F req.length d):=by rw[<-Ti];exact(Td.at 9).1
 have kv:=cX F req.length d req ⟨#[104,111,115,116]⟩ W0 (hq.below b0) (by omega) (λf hf=>by have:=bM hf;omega) (by decide);rw[show(⟨#[104,111,115,116]⟩:ByteArray).data.toList=tO from rfl]at kv;have kh:=λW=>Tryz.strings_HasPrefix k.qt ip W
 rw[show(ip:ByteArray).data.toList=[47]from rfl,show Lib.hasPrefix k.qt.data.toList [47]=([47]:List UInt8).isPrefixOf k.qt.data.toList from rfl,mW,show(!(k.qt.data.toList.headD 0 !=47))=(k.qt.data.toList.headD 0==47)from by simp[bne]]at kh
 have TG:∀x∈af req tO,x.length<=100000:=λx hx=>by obtain⟨f,hf,e⟩:=i_ hx;have:=bM hf;rw[<-e];omega
 obtain⟨R,hR⟩:=aH (fx home ⟨me,k.qt.data.toList,1,req,bo⟩);rw[hR];unfold fx at hR;simp only[show((1:Int)==0)=false from rfl,jU,cond_false]at hR;generalize k.qt=qt at*;have kp:=λ(s:ByteArray)(hs:s.size<=1000000)W(hb:Below W0.heap.size W0 W)=>rH s W (hM.below (bt b0 hb)) (hT.on (bt b0 hb)) (hE.below (bt b0 hb)) hs
 obtain⟨KV,KH,KP,Nl⟩:=bK kv kh kp Nb;obtain⟨HVM,Ou,HU0⟩:=bu TG b0 hU0;clear kv kh kp Nb TG b0 hU0 hC Td hM hT hE hq Ti YB;unfold fi at KV;go_enter Tryz.func76,Tryz.ntmps76
 go_upto_region 1 with(fail)
 rw[Nl.out];generalize (qt.data.toList.headD 0==47)=hh at*;go_upto_if 14 with(go_at_call 34;(with_reducible refine(KH.out _).mono ?_);rintro e w2 ⟨rfl,rfl⟩)
 go_cut [4]from 15 to 50 (λs wx=>∃sb:ByteArray,s=.string sb/\sb.size<=1000000/\Below w2.heap.size w2 wx/\R=((dD sb.data.toList).1,(dD sb.data.toList).2==0))
 case first=>
  cases hh
  ·rw[cond_false]at hR;have HR:=ah hR;clear hR;go_wp2_with fail
   go_meet;exact⟨qt,rfl,by omega,aO _ _,HR.out.symm⟩
  ·rw[cond_true]at hR;go_upto_region 4 with(go_at_call 12;(with_reducible refine KV.out.mono ?_);rintro e w3 ⟨va,vc,rfl,PN,Na⟩)
   have Sn:=HVM.out;generalize af req tO=vs at*
   cases Rv:(vs.length !=1)
   ·rw[Rv,cond_false]at hR;have P5:vs.length=1:=by simpa using Rv
    obtain⟨v,rfl⟩:∃v,vs=[v]:=List.length_eq_one_iff.1 P5;have hv:=Sn v (by simp);obtain⟨bb,oo,rfl,Nx,Zd⟩:=(aQ.rd PN).2.2 (by simp);obtain⟨vb,rfl⟩:∃b:ByteArray,v=b.data.toList:=⟨⟨v.toArray⟩,rfl⟩;have e0:=Zd 0 (.string vb) (by simp[aF]);simp only[Nat.add_zero]at e0;have ZC:vb.size<=100000:=by simpa using hv
    have hRR:R=((dD ((AT:ByteArray)++vb++qt).data.toList).1,(dD ((AT:ByteArray)++vb++qt).data.toList).2==0):=by
     rw[<-hR];have e:((AT:ByteArray)++vb++qt).data.toList=xU++(([vb.data.toList]:List (List UInt8)).headD []++qt.data.toList):=by simp[xU]
     rw[e]
    have Qi:=Na.size;obtain⟨HR,Og⟩:=az hRR Na;clear hR hRR Rv P5 Sn PN Zd Na KV hv;go_wp2_with fail
    go_meet;exact⟨_,rfl,by have h7:(⟨#[104,116,116,112,58,47,47]⟩:ByteArray).size=7:=rfl;simp only[nV];omega,Og.out,HR.out⟩
   ·rw[Rv,cond_true]at hR;have Tc:=HU0.out.below Na;have d8:w3.cell? ⟨X,8,none⟩=some (.int .i64 1):=(Na.cell (p:=⟨X,8,none⟩) (by show X<_;omega)).trans c8;obtain⟨c0,c1,c2,c3,c4,c5⟩:=Tc.cells;have f0:=Tc.free 0;have f1:=Tc.free 1;have f2:=Tc.free 2;have f3:=Tc.free 3;have f4:=Tc.free 4;have f5:=Tc.free 5;have hr:=Tc.six ⟨#[]⟩ ⟨#[]⟩ 0 ⟨#[]⟩ ⟨#[]⟩ false;have Sl:=dX ((Ou.out).trans (Na.mono Ou.out.size)) (aw _) (.string ⟨#[]⟩) (.string ⟨#[]⟩) (.int .i64 0) (.string ⟨#[]⟩) (.string ⟨#[]⟩) (.bool false);have t6:((vs.length:Int)!=1)=true:=by simp at Rv ⊢;omega
    obtain⟨HX,HR⟩:=az (aB hr Sl) hR;clear Sn PN Na Tc hr Sl Rv hR KV
    cases hv0:((vs.length:Int)==0)
    all_goals
     go_wp2_with fail
     obtain⟨b0,b1,b2,b3,b4,b5⟩:=HX.out.1.cells;refine bodyPost_ret_by (v:=.tuple #[dR fg.none,.bool false]) ?_ rfl ?_
     ·unfold dR fg.none;simp[results,Tryz.results76,go_sem,b0,b1,b2,b3,b4,b5]
     ·rw[<-HR.out];exact⟨rfl,HX.out.2⟩
 case rest=>
 clear hR KH KV c7 c8 c9;obtain⟨sb,rfl,YM,Nf,hR⟩:=hcut;have k5:=KP.out sb YM wc Nf;generalize dD sb.data.toList=PU at hR k5;obtain⟨⟨u0,u1,u2,u3,u4,u5⟩,r⟩:=PU;simp only at hR k5
 obtain⟨w0b,rfl⟩:∃b:ByteArray,u0=b.data.toList:=⟨⟨u0.toArray⟩,rfl⟩;obtain⟨w1b,rfl⟩:∃b:ByteArray,u1=b.data.toList:=⟨⟨u1.toArray⟩,rfl⟩;obtain⟨w3b,rfl⟩:∃b:ByteArray,u3=b.data.toList:=⟨⟨u3.toArray⟩,rfl⟩;obtain⟨w4b,rfl⟩:∃b:ByteArray,u4=b.data.toList:=⟨⟨u4.toArray⟩,rfl⟩;subst hR;unfold dR at k5;simp only[bN]at k5;have hU4:=HU0.out.below Nf;obtain⟨Pz,HU4,K5⟩:=bu ((Ou.out).trans (Nf.mono Ou.out.size)) hU4 k5;clear Nf hU4 k5 KP Ou;go_wp2_with fail
 refine K5.out.mono ?_;rintro e w5 ⟨rfl,Ns⟩;obtain⟨W6,N0⟩:=bg w5 (.cells #[.string w0b,.string w1b,.int .i64 u2,.string w3b,.string w4b,.bool u5] 93);have b6:=bm N0;have hN6:gu w5.heap.size w0b w1b u2 w3b w4b u5 W6:=by rw[<-N0];exact ay w5 _ _ rfl
 have SW:=(HU4.out.below Ns).below b6;obtain⟨n0,n1,n2,n3,n4,n5⟩:=hN6.cells;obtain⟨c0,c1,c2,c3,c4,c5⟩:=SW.cells;have f0:=SW.free 0;have f1:=SW.free 1;have f2:=SW.free 2;have f3:=SW.free 3;have f4:=SW.free 4;have f5:=SW.free 5;have hr:=SW.six w0b w1b u2 w3b w4b u5;have Sl:=dX (Pz.out.trans ((bt Ns b6).mono Pz.out.size)) (aw _) (.string w0b) (.string w1b) (.int .i64 u2) (.string w3b) (.string w4b) (.bool u5);obtain⟨PR,HX⟩:=az N0 (aB hr Sl);clear N0 b6 hN6 SW hr Sl Ns Pz HU4 K5;go_upto_region 10 with(fail)
 rw[PR.out];go_wp2_with fail
 obtain⟨b0,b1,b2,b3,b4,b5⟩:=HX.out.1.cells;refine bodyPost_ret_by (v:=.tuple #[.agg #[.string w0b,.string w1b,.int .i64 u2,.string w3b,.string w4b,.bool u5],.bool (r==0)]) ?_ rfl ?_
 ·simp[results,Tryz.results76,go_sem,b0,b1,b2,b3,b4,b5]
 ·exact⟨by unfold dR;simp only[bN],HX.out.2⟩
def MF:List UInt8:=[67,97,99,104,101,45,67,111,110,116,114,111,108]
def MB:List UInt8:=[110,111,45,115,116,111,114,101]
def A3(st:Int)(re:List UInt8):lu:=⟨st,re,1,[(MF,MB)],Lib.itoa st++[32]++re++[10]⟩
theorem LD(X:Nat)(k:bY)(st:Int)(re:ByteArray)(w:World)(hC:aP X k w)(hT:dV w)(Nd:0<=st/\st<=1000000)(PC:re.size<=9000)(Sk:k.qm=jR)(Ok:(co (A3 st re.data.toList) false).2=0):Calls Tryz.prog 74 #[.pointer (some ⟨X,0,none⟩),.int .i64 st,.string re] w λe w'=>e=.returned (.tuple #[])/\aP X { k with resp:=⟨(co (A3 st re.data.toList) false).1.toArray⟩ } w'/\ap X w w':=by
 have Nc:=ae hC;have Q7:=mT st Nd.1 (by omega);obtain⟨W1,Ne⟩:=bg w (.cells #[.string ⟨#[67,97,99,104,101,45,67,111,110,116,114,111,108]⟩,.string nX] 70);have M8:=bm Ne;have hO:aM w.heap.size (.slice (some ⟨w.heap.size,0,none⟩) 1 1) [(MF,MB)] W1:=⟨rfl,Or.inr ⟨w.heap.size,1,#[.string ⟨MF.toArray⟩,.string ⟨MB.toArray⟩],rfl,aw _,by rw[<-Ne];exact ay w _ _ rfl,aw _,by unfold maxLen;omega,rfl,rfl⟩⟩;have k1:=oR st (by omega) (by omega) W1 (hT.on M8)
 have k2:=λW(hb:Below W1.heap.size W1 W)=>tM X k { A3 st re.data.toList with minor:=0 } (some ⟨w.heap.size,0,none⟩) 1 W (hC.below (bt M8 hb)) (hT.on (bt M8 hb)) (hO.rd.2.below hb) (by show 1<=100000;decide) (by show aE [(MF,MB)]<=900000;decide) Nd (by show re.data.toList.length<=9000;simpa using PC) (by show(Lib.itoa st++[32]++re.data.toList++[10]).length<=1000000;simp;omega) Sk Ok
 obtain⟨V,hV⟩:=aH (co (A3 st re.data.toList) false);have hVV:co { ({ A3 st re.data.toList with minor:=0 }:lu)with minor:=1 } false=V:=hV;rw[hVV]at k2;rw[hV];obtain⟨ib,WE⟩:∃b:ByteArray,Lib.itoa st=b.data.toList:=⟨⟨(Lib.itoa st).toArray⟩,rfl⟩;have QQ:(⟨(Lib.itoa st++[32]++re.data.toList++[10]).toArray⟩:ByteArray)=ib++gY++re++⟨#[10]⟩:=by rw[WE];apply ByteArray.ext;simp
 unfold iv A3 at k2;simp only[QQ,bN,dM]at k2;simp only[WE,bN]at k1;have VA:ib.size<=21:=by rw[WE]at Q7;simpa using Q7
 clear QQ WE Q7;have hzz:w.heap.size<=W1.heap.size:=M8.size;obtain⟨K1,K2,NC,HB⟩:=bK k1 k2 Ne M8;clear k1 k2 Ne M8 hC hT hV hVV Ok Sk hO;go_enter Tryz.func74,Tryz.ntmps74
 go_upto_region 1 with(first|(go_at_call 86;rw[NC.out];(with_reducible refine K1.out.mono ?_);rintro e w2 ⟨rfl,M9⟩))
 refine(K2.out w2 M9).mono ?_;rintro e w3 ⟨rfl,Rc,Nu⟩;obtain⟨Vg,Og⟩:=az Rc ((ap.of (bt HB.out M9) (dF Nc)).trans Nu);clear Rc Nu M9 K1 K2;go_wp2_with fail
 go_end0
 exact⟨rfl,Vg.out,Og.out⟩
theorem aP.req{k:bY}{W:World}(h:aP X k W)(qm qt:ByteArray)(qi:Int)(qf:Value)(qb:ByteArray):aP X { k with qm:=qm,qt:=qt,qi:=qi,qf:=qf,qb:=qb } (((((W.setCell ⟨X,6,none⟩ (.string qm)).setCell ⟨X,7,none⟩ (.string qt)).setCell ⟨X,8,none⟩ (.int .i64 qi)).setCell ⟨X,9,none⟩ qf).setCell ⟨X,10,none⟩ (.string qb)):=by have h1:=(aj (j:=10) (v:=(.string qb)) (aj (j:=9) (v:=qf) (aj (j:=8) (v:=(.int .i64 qi)) (aj (j:=7) (v:=(.string qt)) (aj (j:=6) (v:=(.string qm)) h)))));unfold aP;unfold bY.cells ne at h1 ⊢;simp only[cH,cI,cF]at h1;exact h1
theorem aP.uri{k:bY}{W:World}(h:aP X k W)(us uh:ByteArray)(up:Int)(ua uq:ByteArray)(ub:Bool):aP X { k with us:=us,uh:=uh,up:=up,ua:=ua,uq:=uq,ub:=ub } ((((((W.setCell ⟨X,11,none⟩ (.string us)).setCell ⟨X,12,none⟩ (.string uh)).setCell ⟨X,13,none⟩ (.int .i64 up)).setCell ⟨X,14,none⟩ (.string ua)).setCell ⟨X,15,none⟩ (.string uq)).setCell ⟨X,16,none⟩ (.bool ub)):=by have h1:=(aj (j:=16) (v:=(.bool ub)) (aj (j:=15) (v:=(.string uq)) (aj (j:=14) (v:=(.string ua)) (aj (j:=13) (v:=(.int .i64 up)) (aj (j:=12) (v:=(.string uh)) (aj (j:=11) (v:=(.string us)) h))))));unfold aP;unfold bY.cells ne at h1 ⊢;simp only[cH,cI,cF]at h1;exact h1
theorem Ks(X:Nat)(W:World)(qm qt:ByteArray)(qi:Int)(qf:Value)(qb:ByteArray):ap X W (((((W.setCell ⟨X,6,none⟩ (.string qm)).setCell ⟨X,7,none⟩ (.string qt)).setCell ⟨X,8,none⟩ (.int .i64 qi)).setCell ⟨X,9,none⟩ qf).setCell ⟨X,10,none⟩ (.string qb)):=(((((ap.refl X W).set 6 (.string qm)).set 7 (.string qt)).set 8 (.int .i64 qi)).set 9 qf).set 10 (.string qb)
theorem Km(X:Nat)(W:World)(us uh:ByteArray)(up:Int)(ua uq:ByteArray)(ub:Bool):ap X W ((((((W.setCell ⟨X,11,none⟩ (.string us)).setCell ⟨X,12,none⟩ (.string uh)).setCell ⟨X,13,none⟩ (.int .i64 up)).setCell ⟨X,14,none⟩ (.string ua)).setCell ⟨X,15,none⟩ (.string uq)).setCell ⟨X,16,none⟩ (.bool ub)):=((((((ap.refl X W).set 11 (.string us)).set 12 (.string uh)).set 13 (.int .i64 up)).set 14 (.string ua)).set 15 (.string uq)).set 16 (.bool ub)
theorem Ig{T:Nat}{v:Value}{fs:List aU}{w1:World}(h:aM B v fs w)(hk:cR T w w1)(hT:T<B):aM B v fs w1:=by
 obtain⟨h4,h5⟩:=h;refine⟨h4,?_⟩;rcases h5 with h5|⟨g,cap,cur,hv,hg,hh,r⟩
 ·exact Or.inl h5
 ·exact Or.inr ⟨g,cap,cur,hv,hg,hk.2 g _ _ _ hh (by omega) (by decide) (by decide) (by decide),r⟩
theorem yI{u:fg}(h:cj u=0):lI u:=by
 obtain⟨hb,hl⟩:=fU h;have hg:=iE hb;rw[oO]at hl;have h1:=hg.port;refine⟨by omega,by omega,⟨by omega,by omega⟩,by omega,?_⟩
 cases hq:u.hasQ
 ·rw[hq]at hl;unfold wR at hb;simp only[qV]at hb;have h2:=hb.2.1;rw[hq]at h2;simp at h2
  rw[h2];simp
 ·rw[hq]at hl;simp only[cond_true]at hl;omega
def Bz:List UInt8:=[66,97,100,32,82,101,113,117,101,115,116]
def uv(C:B8)(q:oV)(rep:lu)(now:Int)(k':bY):Prop:=
 ((fx C.host q).2=false/\k'.resp=⟨(co (A3 400 Bz) false).1.toArray⟩/\k'.asked=.slice none 0 0/\k'.used=0/\k'.reads=.slice none 0 0) ∨
 ((fx C.host q).2=true/\k'.resp=⟨(co (rh ⟨rep.status,rep.reason,rep.minor,aI rep.fields,rep.body⟩ (iI (dz (aI rep.fields) now now now)).data.toList ((rep.status==200)&&jr q.fields (aI rep.fields) now)) false).1.toArray⟩/\(∃aa ca,k'.asked=.slice aa 1 ca)/\k'.used=1/\∃rv rn rc,k'.reads=.slice rv rn rc)
theorem Kx:(jI [100]).length<=1000:=by decide
theorem Kc{home:List UInt8}{q:oV}{u:fg}(h:fx home q=(u,true)):cj u=0:=by
 unfold fx at h;simp only at h
 have key:∀s,((dD s).1,(dD s).2==0)=(u,true)->cj u=0:=λs e=>by
  injection e with e1 e2
  rw[<-e1];exact FK e2
 revert h
 generalize (bif(af q.fields tO).isEmpty&&(q.minor==0)then [home]else af q.fields tO)=l2;intro h
 cases h1:(q.target.headD 0==47)
 ·rw[h1,cond_false]at h;exact key _ h
 ·rw[h1,cond_true]at h
  cases h2:(l2.length !=1)
  ·rw[h2,cond_false]at h;exact key _ h
  ·rw[h2,cond_true]at h;injection h with _ h
   cases h
theorem uv.shape{C:B8}{q:oV}{rep:lu}{now:Int}{k:bY}(h:uv C q rep now k):(∃a n c,k.asked=.slice a n c)/\∃a n c,k.reads=.slice a n c:=by
 unfold uv at h;rcases h with⟨_,_,h1,_,h2⟩|⟨_,_,⟨a,c,h1⟩,_,⟨b,n,d,h2⟩⟩
 ·exact⟨⟨_,_,_,h1⟩,⟨_,_,_,h2⟩⟩
 ·exact⟨⟨_,_,_,h1⟩,⟨_,_,_,h2⟩⟩
theorem wn:(co (A3 400 Bz) false).2=0:=by kernel_rfl
theorem Jc{w0:World}{put:Int}(hl:dS w0 w sb bl nn mm [] put)(X:Nat)(k:bY)(C:B8)(CA:Option Addr)(cc O o om od:Nat)(last:Int)(oc:Array Value)(b by':ByteArray)(q:oV)(rep:lu)(hD:d9 w0)(hT:dV w0)(hE:gD w0)(hC:aP X k w)(hX:w0.heap.size<=X)(hS:w.heap[k.sg]?=some (.cells (rV sb C CA cc last) 68 (0,0)))(hF:∀W,cR X w W->Rd CA C.fwd.length 1 (aF C.fwd) W)(VZ:k.l=.slice (some ⟨O,o,none⟩) om od)(Vo:1<=om/\om<=1000000)(hO:w.heap[O]?=some (.cells oc 62 (0,0)))(Tp:oc[o]?=some (.string b))(Nr:oc[o+1]?=some (.bool true))(Ux:k.asked=.slice none 0 0)(QF:k.used=0)(OA:k.seen=.slice none 0 0)(QU:k.reads=.slice none 0 0)(hq:rl by'.data.toList=(q,by'.size,0))(Xe:by'.size<=1000000)(Sk:q.method=[71,69,84])(YB:q.minor=1)(Vu:q.fields.length<=100)(Qo:aE q.fields<=7000)(hqt:q.target.length<=100000)(hn:C.fwd.length<=2)(TF:C.dev=[100])(PX:∀x∈C.fwd,x.length<=1000)(PG:(fx C.host q).2=true->(fx C.host q).1.path.length+(fx C.host q).1.query.length<=400)(Qf:ep b.data.toList false=(rep,b.size,0))(N9:b.size<=100000)(Nd:200<=rep.status/\rep.status<=999)(Pq:rep.status≠304)(QZ:rep.fields.length<=56)(Tm:aE rep.fields<=7000)(PC:rep.reason.length<=9000)(O9:rep.body.length<=262144)(hp:0<=put/\put<=999)(RR:0<=k.now/\k.now<=253402300799)(QB:((rep.status==200)&&(vj (af (aI rep.fields) jb) C.dev).esi)=false)(Ok:∀nm,(co (rh ⟨rep.status,rep.reason,rep.minor,aI rep.fields,rep.body⟩ (iI (dz (aI rep.fields) k.now k.now k.now)).data.toList nm) false).2=0):Calls Tryz.prog 31 #[.pointer (some ⟨X,0,none⟩),.string by'] w λe w'=>e=.returned (.tuple #[])/\∃k' NE put',aP X k' w'/\uv C q rep k.now k'/\dS w0 w' sb bl nn mm NE put'/\put<=put'/\put'<=put+1/\cR X w w':=by
 have Nc:=ae hC;have Ol:=hl.base;have k1:=Ky by' q by'.size w (hD.1.below Ol) (hE.below Ol) (by omega) hq
 obtain⟨qm,qt,qi,qs,qb⟩:=q;simp only at Sk YB Vu Qo hqt
 subst Sk YB;unfold uu at k1;simp only at k1
 have U2:k.sg≠X:=λe=>by
  have h1:=hS;rw[e]at h1;have h2:=h1.symm.trans hC;injection h2 with h2
  injection h2 with _ h2 _
  exact absurd h2 (by decide)
 have UA:O≠X:=λe=>by
  have h1:=hO;rw[e]at h1;have h2:=h1.symm.trans hC;injection h2 with h2
  injection h2 with _ h2 _
  exact absurd h2 (by decide)
 obtain⟨Ws,Wf⟩:=az U2 UA;clear U2 UA;obtain⟨HL,HC,K1,HD,HT,HE⟩:=eN hl hC k1 hD hT hE;obtain⟨HS,HF,HOL,HO,Wq,OW⟩:=eN hS hF VZ hO Tp Nr;obtain⟨YO,YQ,Th,Vl,HPQ,SS⟩:=eN Ux QF OA QU PG Qf;obtain⟨UD,Xo,HFS,ZK⟩:=bK QB Ok PX TF;obtain⟨HX,Ou,HLT⟩:=bu hX Ol Nc;clear hl hC k1 hD hT hE hS hF VZ hO Tp Nr Ux QF OA QU PG Qf QB Ok PX TF hq hX Ol;go_enter Tryz.func31,Tryz.ntmps31
 go_wp2_with fail
 refine K1.out.mono ?_;rintro e w1 ⟨A,c,rfl,Nr,M8⟩;obtain⟨W2,Nw⟩:=bg w1 (.cells #[.string jR,.string ⟨qt.toArray⟩,.int .i64 1,.slice A qs.length c,.string ⟨qb.toArray⟩] 74);have b2:=bm Nw;have x2:=dU Nw;have M9:=bt M8 b2;have Qt:=HC.out.below M9;have r0:=aS x2 0;have r1:=aS x2 1;have r2:=aS x2 2;have r3:=aS x2 3;have r4:=aS x2 4;have c6:W2.cell? ⟨X,6,none⟩=some (.string k.qm):=(Qt.at 6).1;have c7:W2.cell? ⟨X,7,none⟩=some (.string k.qt):=(Qt.at 7).1;have c8:W2.cell? ⟨X,8,none⟩=some (.int .i64 k.qi):=(Qt.at 8).1;have c9:W2.cell? ⟨X,9,none⟩=some k.qf:=(Qt.at 9).1;have c10:W2.cell? ⟨X,10,none⟩=some (.string k.qb):=(Qt.at 10).1;have z6:=(Qt.at 6).2;have z7:=(Qt.at 7).2;have z8:=(Qt.at 8).2;have z9:=(Qt.at 9).2;have z10:=(Qt.at 10).2;have Rc:=Qt.req jR ⟨qt.toArray⟩ 1 (.slice A qs.length c) ⟨qb.toArray⟩
 have R_:=Ks X W2 jR ⟨qt.toArray⟩ 1 (.slice A qs.length c) ⟨qb.toArray⟩;have XL:w1.heap.size≠X:=by have:=M8.size;omega
 obtain⟨Of,Vg,HS3,OT,X2,NM⟩:=eN Nw Rc R_ M9 x2 (Nr.below b2);obtain⟨HC2,Ru⟩:=az Qt XL;clear Nw Rc R_ x2 Qt Nr M8 b2 M9 K1 XL;go_upto_region 1 with(fail)
 rw[Of.out];go_upto_region 8 with(fail)
 obtain⟨W3,NW⟩:=aH (((((W2.setCell ⟨X,6,none⟩ (.string jR)).setCell ⟨X,7,none⟩ (.string ⟨qt.toArray⟩)).setCell ⟨X,8,none⟩ (.int .i64 1)).setCell ⟨X,9,none⟩ (.slice A qs.length c)).setCell ⟨X,10,none⟩ (.string ⟨qb.toArray⟩));rw[NW];have Rc:=Vg.out;have R_:=HS3.out;rw[NW]at Rc R_;have x3:=(R_.2 _ (ae X2.out) Ru.out).trans X2.out;have t0:=aS x3 0;have QD:=(HL.out.below OT.out).beside HC2.out gC HX.out R_;have QU:cR X w W3:=(cR.kept (de.of_below OT.out)).trans (cR.beside R_);have NN:=bi NM.out R_ HLT.out;have Nu:=QD.base;have ka:=Ae X _ A qs.length c qs C.host [71,69,84] qb W3 Rc (HD.out.1.below Nu) (HT.out.on Nu) (HE.out.below Nu) rfl rfl (aM.rd NN).2 (by omega) (by omega) (by rw[dj];exact hqt)
 have kw:∀W,Below W3.heap.size W3 W->dS w0 W sb bl nn mm [] put/\cR X w W/\aM w.heap.size (.slice A qs.length c) qs W:=λW hb=>⟨QD.below hb,QU.below hb,aM.below NN hb⟩
 obtain⟨KA,KW,Pv,HX3⟩:=bK ka kw Rc (ae Rc);clear NW Rc R_ x3 QD QU NN Nu ka kw Vg HS3 OT X2 NM HC2 Of r0 r1 r2 r3 r4 c6 c7 c8 c9 c10 z6 z7 z8 z9 z10;obtain⟨AD,hAD⟩:=aH (fx C.host ⟨[71,69,84],qt,1,qs,qb⟩);have PG:=HPQ.out;have ka:=KA.out;rw[show(⟨qt.toArray⟩:ByteArray).data.toList=qt from rfl,hAD]at ka;rw[hAD]at PG;obtain⟨⟨us,uh,up,ua,uq,ub⟩,is⟩:=AD;unfold dR at ka;simp only at ka PG
 obtain⟨HAD,KA2,YL⟩:=bu hAD ka PG;clear hAD ka PG KA HPQ;go_upto_region 11 with(fail)
 go_wp2_with fail
 refine KA2.out.mono ?_;rintro e w4 ⟨rfl,Nf⟩;obtain⟨W5,OH⟩:=bg w4 (.cells #[.string ⟨us.toArray⟩,.string ⟨uh.toArray⟩,.int .i64 up,.string ⟨ua.toArray⟩,.string ⟨uq.toArray⟩,.bool ub] 93);have b5:=bm OH;have x5:=dU OH;have Uq:=Pv.out.below (bt Nf b5);obtain⟨hl5,S_,P9⟩:=KW.out W5 (bt Nf b5);obtain⟨XD,OZ,HL5,HK5,Rk,X5⟩:=eN OH Uq hl5 S_ P9 x5;clear OH Uq hl5 S_ P9 x5 b5 Nf KW Pv KA2
 cases is
 ·have ko:=LD X _ 400 ⟨Bz.toArray⟩ W5 OZ.out (HT.out.on HL5.out.base) ⟨by decide,by decide⟩ (by decide) rfl wn;have KO:=ah ko;clear ko;go_upto_region 13 with(fail)
  rw[XD.out];go_wp2_with fail
  refine KO.out.mono ?_;rintro e w6 ⟨rfl,Rf,NP⟩;have HF:=ah (aB Rf (aB (HL5.out.beside OZ.out gC HX.out NP) (HK5.out.trans (cR.beside NP))));clear Rf NP KO;go_wp2_with fail
  refine bodyPost_ret_by (v:=.tuple #[]) ?_ rfl ?_
  ·simp[results,Tryz.results31,go_sem]
  ·refine⟨rfl,_,[],put,HF.out.1,?_,HF.out.2.1,iR _,by omega,HF.out.2.2⟩;unfold uv;rw[HAD.out];exact Or.inl ⟨rfl,rfl,YO.out,YQ.out,Vl.out⟩
 ·have u0:=aS X5.out 0;have u1:=aS X5.out 1;have u2:=aS X5.out 2;have u3:=aS X5.out 3;have u4:=aS X5.out 4;have u5:=aS X5.out 5;have c11:W5.cell? ⟨X,11,none⟩=some (.string k.us):=(OZ.out.at 11).1;have c12:W5.cell? ⟨X,12,none⟩=some (.string k.uh):=(OZ.out.at 12).1;have c13:W5.cell? ⟨X,13,none⟩=some (.int .i64 k.up):=(OZ.out.at 13).1;have YA:W5.cell? ⟨X,14,none⟩=some (.string k.ua):=(OZ.out.at 14).1;have c15:W5.cell? ⟨X,15,none⟩=some (.string k.uq):=(OZ.out.at 15).1;have c16:W5.cell? ⟨X,16,none⟩=some (.bool k.ub):=(OZ.out.at 16).1;have z11:=(OZ.out.at 11).2;have z12:=(OZ.out.at 12).2;have z13:=(OZ.out.at 13).2;have z14:=(OZ.out.at 14).2;have z15:=(OZ.out.at 15).2;have z16:=(OZ.out.at 16).2;go_upto_region 14 with(fail)
  rw[XD.out];go_upto_region 16 with(fail)
  obtain⟨W6,N0⟩:=aH ((((((W5.setCell ⟨X,11,none⟩ (.string ⟨us.toArray⟩)).setCell ⟨X,12,none⟩ (.string ⟨uh.toArray⟩)).setCell ⟨X,13,none⟩ (.int .i64 up)).setCell ⟨X,14,none⟩ (.string ⟨ua.toArray⟩)).setCell ⟨X,15,none⟩ (.string ⟨uq.toArray⟩)).setCell ⟨X,16,none⟩ (.bool ub));rw[N0];have Ue:=OZ.out.uri ⟨us.toArray⟩ ⟨uh.toArray⟩ up ⟨ua.toArray⟩ ⟨uq.toArray⟩ ub;have SL:=Km X W5 ⟨us.toArray⟩ ⟨uh.toArray⟩ up ⟨ua.toArray⟩ ⟨uq.toArray⟩ ub;rw[N0]at Ue SL;have S5:=HL5.out.beside OZ.out gC HX.out SL;have PH:=HK5.out.trans (cR.beside SL);have ZX:=bi Rk.out SL HLT.out;have Q8:cj ⟨us,uh,up,ua,uq,ub⟩=0:=Kc HAD.out;have Oe:ua.length+uq.length<=400:=YL.out trivial
  have kg:=Hk S5 X _ C CA A cc qs.length c O o om od last ⟨us,uh,up,ua,uq,ub⟩ qs oc b rep HD.out HT.out HE.out Ue HX.out (PH.blk HS.out lF Ws.out) (λW hk=>HF.out W (PH.trans hk)) rfl (λW hk=>(aM.rd (Ig ZX hk HLT.out)).2) HOL.out Vo (PH.blk HO.out jv Wf.out) Wq.out OW.out YO.out YQ.out Th.out (yI Q8) (by omega) Vu Q8 (by rw[ZK.out];decide) (by rw[ZK.out];exact Kx) HFS.out (by omega) (JH Q8 Oe) (FY Q8 C.dev ZK.out C.fwd hn qs).2 SS.out N9 Nd Pq QZ (by omega) (by omega) O9 hp RR rfl Vl.out ⟨rfl,rfl,rfl,rfl,rfl,rfl⟩ Qo Tm PC UD.out Xo.out;obtain⟨KG,Rr⟩:=az kg PH;clear N0 Ue SL S5 PH ZX kg u0 u1 u2 u3 u4 u5 c11 c12 c13 YA c15 c16 z11 z12 z13 z14 z15 z16 XD OZ HL5 HK5 Rk X5;go_wp2_with fail
  refine KG.out.mono ?_;rintro e w7 ⟨rfl,k',NE,put',hc7,h1,h2,h3,h4,XA,Ut,Ur,S7⟩;have HF7:=ah (aB hc7 (aB h1 (aB h2 (aB (aB h3 h4) (aB XA (aB Ut (aB Ur (Rr.out.trans S7))))))));clear hc7 h1 h2 h3 h4 XA Ut Ur S7 KG;go_wp2_with fail
  go_end0
  obtain⟨g1,g2,g3,g4,g5,g6,g7,g8⟩:=HF7.out;refine⟨rfl,k',NE,put',g1,?_,g5,g6,g7,g8⟩;unfold uv;rw[HAD.out];exact Or.inr ⟨rfl,g2,g3,g4.1,g4.2⟩
theorem Kf(S sb:Nat)(cs:Array Value)(w:World)(h:w.heap[S]?=some (.cells cs 68 (0,0)))(h0:cs[0]?=some (.pointer (some ⟨sb,0,none⟩))):Calls Tryz.prog 30 #[.pointer (some ⟨S,0,none⟩)] w λe w'=>e=.returned (.bool true)/\w=w':=by
 have c0:w.cell? ⟨S,0,none⟩=some (.pointer (some ⟨sb,0,none⟩)):=(ab h 0).1.trans h0;clear h h0;go_enter Tryz.func30,Tryz.ntmps30
 go_wp2;go_ret;exact⟨rfl,rfl⟩
theorem cR.late{S:Nat}{a b c:World}(h:cR S a b)(k:cR X b c)(hX:a.heap.size<=X):cR S a c:=⟨bj h.1 k.1,λg cs Y z h1 h2 h3 h4 h5=>k.2 g cs Y z (h.2 g cs Y z h1 h2 h3 h4 h5) (by have:=ae h1;omega) h3 h4 h5⟩
theorem MJ{b:Nat}{T:TypeId}{u0 u1 u2 u3:Value}(v0 v1 v2 v3:Value)(h:w.heap[b]?=some (.cells #[u0,u1,u2,u3] T (0,0))):((((w.setCell ⟨b,0,none⟩ v0).setCell ⟨b,1,none⟩ v1).setCell ⟨b,2,none⟩ v2).setCell ⟨b,3,none⟩ v3).heap[b]?=some (.cells #[v0,v1,v2,v3] T (0,0)):=by have h1:=aj (j:=3) (v:=v3) (aj (j:=2) (v:=v2) (aj (j:=1) (v:=v1) (aj (j:=0) (v:=v0) h)));simp only[cH,cI,cF]at h1;exact h1
theorem Jp(b:Nat)(w:World)(v0 v1 v2 v3:Value):ap b w ((((w.setCell ⟨b,0,none⟩ v0).setCell ⟨b,1,none⟩ v1).setCell ⟨b,2,none⟩ v2).setCell ⟨b,3,none⟩ v3):=((((ap.refl b w).set 0 v0).set 1 v1).set 2 v2).set 3 v3
theorem vS:gd 49:=⟨by decide,by decide,by decide,by decide⟩
theorem D7(sb:Nat)(C:B8)(CA:Option Addr)(cc:Nat)(last now:Int):(rV sb C CA cc last).setIfInBounds 8 (.int .i64 now)=rV sb C CA cc now:=by unfold rV;simp only[cH,cI,cF]
def I9(S:Nat)(now:Int)(l:Value):bY:=⟨S,⟨#[]⟩,.slice none 0 0,0,.slice none 0 0,now,⟨#[]⟩,⟨#[]⟩,0,.slice none 0 0,⟨#[]⟩,⟨#[]⟩,⟨#[]⟩,0,⟨#[]⟩,⟨#[]⟩,false,l,0,2147483648,.slice none 0 0⟩
theorem Hj{w0:World}{put:Int}(hl:dS w0 w sb bl nn mm [] put)(S:Nat)(C:B8)(CA:Option Addr)(cc O o om od:Nat)(last now:Int)(oc:Array Value)(b by':ByteArray)(q:oV)(rep:lu)(hD:d9 w0)(hT:dV w0)(hE:gD w0)(hX:w0.heap.size<=S)(hS:w.heap[S]?=some (.cells (rV sb C CA cc last) 68 (0,0)))(hF:∀W,cR S w W->Rd CA C.fwd.length 1 (aF C.fwd) W)(Vo:1<=om/\om<=1000000)(hO:w.heap[O]?=some (.cells oc 62 (0,0)))(Tp:oc[o]?=some (.string b))(Nr:oc[o+1]?=some (.bool true))(hq:rl by'.data.toList=(q,by'.size,0))(Xe:by'.size<=1000000)(Sk:q.method=[71,69,84])(YB:q.minor=1)(Vu:q.fields.length<=100)(Qo:aE q.fields<=7000)(hqt:q.target.length<=100000)(hn:C.fwd.length<=2)(TF:C.dev=[100])(PX:∀x∈C.fwd,x.length<=1000)(PG:(fx C.host q).2=true->(fx C.host q).1.path.length+(fx C.host q).1.query.length<=400)(Qf:ep b.data.toList false=(rep,b.size,0))(N9:b.size<=100000)(Nd:200<=rep.status/\rep.status<=999)(Pq:rep.status≠304)(QZ:rep.fields.length<=56)(Tm:aE rep.fields<=7000)(PC:rep.reason.length<=9000)(O9:rep.body.length<=262144)(hp:0<=put/\put<=999)(hla:0<=last/\last<=now)(RR:0<=now/\now<=253402300799)(QB:((rep.status==200)&&(vj (af (aI rep.fields) jb) C.dev).esi)=false)(Ok:∀nm,(co (rh ⟨rep.status,rep.reason,rep.minor,aI rep.fields,rep.body⟩ (iI (dz (aI rep.fields) now now now)).data.toList nm) false).2=0):Calls Tryz.prog 13 #[.pointer (some ⟨S,0,none⟩),.int .i64 now,.string by',.slice (some ⟨O,o,none⟩) om od] w λe w'=>∃k' NE put',e=.returned (.agg #[.string k'.resp,k'.asked,.int .i64 k'.used,k'.reads])/\uv C q rep now k'/\dS w0 w' sb bl nn mm NE put'/\put<=put'/\put'<=put+1/\cR S w w'/\w'.heap[S]?=some (.cells (rV sb C CA cc now) 68 (0,0)):=by
 have Nc:=ae hS;obtain⟨W0,Nb⟩:=bg w (.cells #[.string ⟨#[]⟩,.slice none 0 0,.int .i64 0,.slice none 0 0] 49);have b0:=bm Nb;have z0:W0.heap.size=w.heap.size+1:=by rw[<-Nb];simp
 have x0:=dU Nb;have WI:=(b0.block _ Nc).trans hS;have ki:=Kf S sb _ W0 WI rfl;have c8:=aS WI 8;have z8:=(ab WI 8).2.1;have NH:=aj (j:=8) (v:=.int .i64 now) WI;rw[D7]at NH;have P8:=ap.setCell S 8 W0 (.int .i64 now);have Rv:=(hl.below b0).beside WI lF hX P8;have x1:=(P8.2 _ (ae x0) (by omega)).trans x0;have QF:cR S w _:=(cR.kept (de.of_below b0)).trans (cR.beside P8);have mx:max last (min now 253402300799)=now:=by omega
 generalize hWs:W0.setCell ⟨S,8,none⟩ (.int .i64 now)=W1 at*;have c81:=aS NH 8;obtain⟨W2,Nw⟩:=bg W1 (.cells (I9 S now (.slice (some ⟨O,o,none⟩) om od)).cells 95);have b2:=bm Nw;have z1:W0.heap.size<=W1.heap.size:=P8.size;have Qt:aP W1.heap.size (I9 S now (.slice (some ⟨O,o,none⟩) om od)) W2:=by rw[<-Nw];exact ay W1 _ _ rfl
 have OA:cR S w W2:=QF.below b2
 have Ng:O≠S:=λe=>by
  rw[e,hS]at hO;injection hO with hO
  injection hO with _ hO _
  exact absurd hO (by decide)
 have hlX:w0.heap.size<=W1.heap.size:=by omega
 have kr:=Jc (Rv.below b2) W1.heap.size _ C CA cc O o om od now oc b by' q rep hD hT hE Qt hlX ((b2.block _ (ae NH)).trans NH) (λW hk=>hF W (OA.late hk (by omega))) rfl Vo (OA.blk hO jv Ng) Tp Nr rfl rfl rfl rfl hq Xe Sk YB Vu Qo hqt hn TF PX PG Qf N9 Nd Pq QZ Tm PC O9 hp RR QB Ok
 unfold bY.cells ne I9 at Nw;simp only at Nw
 obtain⟨Nl,KI,HWS,Of,KR,Th⟩:=eN Nb ki hWs Nw kr OA;obtain⟨QL,X2,HLX⟩:=bu ((b2.block _ (ae NH)).trans NH) ((b2.block _ (ae x1)).trans x1) hlX;clear Nb ki hWs Nw kr OA QF Rv hl hS WI NH P8 x0 x1 b0 b2 hF hO Tp Nr hq PG Qf QB Ok hD hT hE Qt hlX;go_enter Tryz.func13,Tryz.ntmps13
 go_upto_region 1 with(fail)
 rw[Nl.out];go_upto_region 4 with(go_at_call 30;(with_reducible refine KI.out.mono ?_);rintro e w1 ⟨rfl,rfl⟩)
 rw[HWS.out];go_upto_region 5 with(fail)
 rw[Of.out];go_wp2_with fail
 refine KR.out.mono ?_;rintro e w3 ⟨rfl,k',NE,put',Vb,UE,QD,Ut,Ur,QU⟩;have hk:=Th.out.late QU (by omega);obtain⟨⟨aA,aN,aC,has⟩,⟨rA,rN,rC,RK⟩⟩:=UE.shape;obtain⟨HAS,St⟩:=az has RK;have Ye:=QU.blk QL.out lF (by have:=ae QL.out;omega);have Xk:=QU.blk X2.out vS (by omega);have d1:w3.cell? ⟨W1.heap.size,1,none⟩=some (.string k'.resp):=(Vb.at 1).1;have d2:w3.cell? ⟨W1.heap.size,2,none⟩=some (.slice aA aN aC):=(by rw[<-has];exact(Vb.at 2).1);have d3:w3.cell? ⟨W1.heap.size,3,none⟩=some (.int .i64 k'.used):=(Vb.at 3).1;have d4:w3.cell? ⟨W1.heap.size,4,none⟩=some (.slice rA rN rC):=(by rw[<-RK];exact(Vb.at 4).1);have e0:=aS Xk 0;have e1:=aS Xk 1;have e2:=aS Xk 2;have e3:=aS Xk 3;have f0:=λj:Nat=>(ab Xk j).2.1
 have h4:=MJ (.string k'.resp) (.slice aA aN aC) (.int .i64 k'.used) (.slice rA rN rC) Xk;have s4:=Jp w.heap.size w3 (.string k'.resp) (.slice aA aN aC) (.int .i64 k'.used) (.slice rA rN rC);have Te:=QD.beside Xk vS (by omega) s4;have hk4:cR S w _:=hk.late (cR.beside s4) (aw _);have WX:=(s4.2 _ (ae Ye) (by omega)).trans Ye;have HF:=ah (aB h4 (aB UE (aB Te (aB hk4 WX))));clear has RK;clear h4 s4 Te hk4 WX Xk Ye hk Vb UE QD QU KR Of HWS Nl KI Th QL X2;go_wp2_with fail
 obtain⟨h1,h2,h3,h5,h6⟩:=HF.out;have b0:=(ab h1 0).1;have b1:=(ab h1 1).1;have b2:=(ab h1 2).1;have b3:=(ab h1 3).1;simp only[cT,cS,cv]at b0 b1 b2 b3;refine bodyPost_ret_by (v:=.agg #[.string k'.resp,.slice aA aN aC,.int .i64 k'.used,.slice rA rN rC]) ?_ rfl ?_
 ·simp[results,Tryz.results13,go_sem,b0,b1,b2,b3]
 ·exact⟨k',NE,put',by rw[HAS.out,St.out],h2,h3,Ut,Ur,h5,h6⟩
def tE:B8:=⟨[104],20,100000,6,3,[100],[[67,111,111,107,105,101],[88,45,70]]⟩
def tU:List (List UInt8):=[[67,111,111,107,105,101],[88,45,70]]
theorem CX(n m:Int)(w:World):Calls Tryz.prog 44 #[.int .i64 n,.int .i64 m] w λe w'=>e=.returned (.bool (decide (n>=1)&&decide (n<=m)))/\w=w':=by
 cases h1:decide (n>=1)
 ·go_enter Tryz.func44,Tryz.ntmps44
  go_wp2;go_ret;exact⟨rfl,rfl⟩
 ·go_enter Tryz.func44,Tryz.ntmps44
  go_wp2;go_ret;exact⟨by simp,rfl⟩
theorem B_(b o:Nat)(c:Nat)(ls:List (List UInt8))(w:World)(hr:Rd (some ⟨b,o,none⟩) ls.length 1 (aF ls) w)(hn:ls.length<=1000000):Calls Tryz.prog 20 #[.slice (some ⟨b,o,none⟩) ls.length c] w (fi w ls):=by
 have M8:=aV w (.cells #[] 9);have hO:aQ w.heap.size (.slice (some ⟨w.heap.size,0,none⟩) 0 0) [] (w.alloc (.cells #[] 9)):=⟨rfl,Or.inr ⟨w.heap.size,0,#[],rfl,aw _,ay w _ _ rfl,aw _,by unfold maxLen;omega,rfl,rfl⟩⟩;have he:(binOp .eql 30 (.slice (some ⟨b,o,none⟩) ls.length c) (.slice none 0 0)).run Tryz.prog w=.ok (.bool false) w:=by exact Lib.run_eql_slice_nil (h:=Tryz.underlying30) ..
 obtain⟨HR,HB,HO⟩:=bu (hr.below M8) M8 hO;clear hr M8 hO;go_enter Tryz.func20,Tryz.ntmps20
 go_wp2_with (at_builtin;refine sW w.heap.size HO.out (by simp) HR.out (by simp;omega) rfl _ _ rfl rfl rfl ?_)
 intro v' w3 hO hb _;obtain⟨ga,gc,rfl⟩:=hO.shape;have HF:=ah (aB hO (HB.out.trans hb));clear hO hb;go_wp2_with fail
 go_ret;exact⟨ga,gc,rfl,HF.out⟩
def JP:fg:=⟨[104,116,116,112],[104],0,[47],[],false⟩
theorem Ka:dD [104,116,116,112,58,47,47,104,47]=(JP,0):=by kernel_rfl
theorem Mj:pP JP=[104,116,116,112,58,47,47,104,47]:=by kernel_rfl
def sI:List (List UInt8):=[[104,111,115,116],[115,117,114,114,111,103,97,116,101,45,99,97,112,97,98,105,108,105,116,121],[99,111,110,116,101,110,116,45,116,121,112,101],[99,111,110,116,101,110,116,45,108,101,110,103,116,104],[105,102,45,110,111,110,101,45,109,97,116,99,104],[105,102,45,109,111,100,105,102,105,101,100,45,115,105,110,99,101]]
def kP:Nat->List (List UInt8)
 |0=>jf []++sI
 |1=>(jf []++sI)++[[99,111,111,107,105,101]]
 |_=>((jf []++sI)++[[99,111,111,107,105,101]])++[[120,45,102]]
theorem Jr:(kP 0).contains [99,111,111,107,105,101]=false:=by decide
theorem Je:(kP 1).contains [120,45,102]=false:=by decide
theorem rE(k:Nat):(kP k).length<=1000:=by
 match k with
 |0=>decide
 |1=>decide
 |_+2=>show(kP 2).length<=1000;decide
theorem Bo(n m:Int)(w:World)(h1:1<=n)(h2:n<=m):Calls Tryz.prog 44 #[.int .i64 n,.int .i64 m] w λe w'=>e=.returned (.bool true)/\w=w':=by have k:=CX n m w;rw[decide_eq_true (show n>=1 from h1),decide_eq_true h2]at k;exact k
theorem Me(A:Option Addr)(c:Nat)(w:World)(hM:cq w)(hT:dV w)(hE:gD w)(hr:Rd A 2 1 (aF tU) w):Calls Tryz.prog 19 #[pB tE A c] w λe w'=>e=.returned (.bool true)/\Below w.heap.size w w':=by
 obtain⟨W0,Nb⟩:=bg w (.cells #[.string iA,.int .i64 20,.int .i64 100000,.int .i64 6,.int .i64 3,.string ir,.slice A 2 c] 32);have b0:=bm Nb;have x0:=dU Nb;have hs:((AT:ByteArray)++iA++ip)=Gb:=by apply ByteArray.ext;simp
 have k1:=rH Gb W0 (hM.below b0) (hT.on b0) (hE.below b0) (by decide);rw[show(Gb:ByteArray).data.toList=[104,116,116,112,58,47,47,104,47]from rfl,Ka]at k1;have k2:=λW(hb:Below W0.heap.size W0 W)=>vk JP W (hM.below (bt b0 hb)) (hT.on (bt b0 hb)) (yI (by kernel_rfl))
 rw[Mj]at k2;have k3:=λW=>fR ir W (by decide)
 rw[show be (ir:ByteArray).data.toList=true from by decide]at k3;unfold JP dR at k1 k2;simp only at k1 k2
 obtain⟨Nl,K1,K2,K3,X0,B0⟩:=eN Nb k1 k2 k3 x0 b0;obtain⟨HR,HS⟩:=az hr hs;have c0:=aS x0 0;clear Nb k1 k2 k3 x0 hM hT hE hr hs b0;unfold pB zU tE;go_enter Tryz.func19,Tryz.ntmps19
 go_upto_region 1 with(fail)
 rw[Nl.out];go_wp2_with (first|(go_at_call 35;rw[HS.out];(with_reducible refine K1.out.mono ?_);rintro e w1 ⟨rfl,M8⟩))
 obtain⟨W2,Nw⟩:=bg w1 (.cells #[.string ⟨#[104,116,116,112]⟩,.string iA,.int .i64 0,.string ip,.string ⟨#[]⟩,.bool false] 93);have b2:=bm Nw;have Nk:=bt M8 b2;have x2:=dU Nw;have y2:=(Nk.block _ (ae X0.out)).trans X0.out;rw[Nw];obtain⟨OT,X2,Y2⟩:=bu Nk x2 y2
 have kf:∀W,Below W2.heap.size W2 W->(W.cell? ⟨w1.heap.size,3,none⟩=some (.string ip)/\W.cell? ⟨w.heap.size,0,none⟩=some (.string iA)/\W.cell? ⟨w.heap.size,5,none⟩=some (.string ir)/\W.cell? ⟨w.heap.size,6,none⟩=some (.slice A 2 c)):=λW h=>by have x:=(h.block _ (ae X2.out)).trans X2.out;have y:=(h.block _ (ae Y2.out)).trans Y2.out;exact⟨(ab x 3).1,(ab y 0).1,(ab y 5).1,(ab y 6).1⟩
 have KF:=ah kf;have u0:=aS x2 0;have u1:=aS x2 1;have u2:=aS x2 2;have u4:=aS x2 4;have u5:=aS x2 5;obtain⟨d1,d2,d3,d4⟩:=kf W2.drew (aO _ W2).drew;have kp:=K2.out W2.drew (Nk.drew);have KP:=ah kp;have hs:=HS.out;clear Nw b2 Nk x2 y2 M8 kf kp K1 K2 c0;go_cut [43] (λs wx=>s=.bool false/\Below W2.heap.size W2 wx)
 case first=>
  go_region_with (first
   |(go_at_call 40;(with_reducible refine KP.out.mono ?_);rintro e w3 ⟨rfl,Na⟩;have hb3':Below W2.heap.size W2 w3:=((aO _ W2).drew).trans Na;obtain⟨d1,d2,d3,d4⟩:=KF.out w3 hb3')
   |(go_at_call 41;(with_reducible refine(K3.out _).mono ?_);rintro e w4 ⟨rfl,rfl⟩)
   |fail)
  all_goals
   go_wp2_with fail
   go_meet;exact⟨rfl,hb3'⟩
 case rest=>
 clear u0 u1 u2 u4 u5 d1 d2 d3 d4 KP hs;obtain⟨rfl,Na⟩:=hcut;obtain⟨b,o,rfl,Nx,Zd⟩:=HR.out.2 (by decide);have Og:=ah ((B0.out).trans ((OT.out.trans (Na.mono OT.out.size)).mono B0.out.size));have y3:=(Na.block _ (ae Y2.out)).trans Y2.out;have k4:=Do none 0 0 [] wc Rd.nil (by decide) (by decide);obtain⟨K4,HCC,Y3⟩:=bu k4 Zd y3;clear k4 Zd Na y3 KF OT X2 Y2;obtain⟨W3,rfl⟩:∃W,W=wc:=⟨_,rfl⟩;unfold fi at K4;generalize hh0:jf []=h0 at*;have HH0:=ah hh0;clear hh0;go_upto_region 4 with(fail)
 go_wp2_with fail
 refine K4.out.mono ?_;rintro e w4 ⟨ha,hc,rfl,hoh,Nf⟩;have Oy:=aV w4 (.cells (aF sI).toArray 9);have hoh2:=aQ.below hoh Oy;have hrb:Rd (some ⟨w4.heap.size,0,none⟩) 6 1 (aF sI) (w4.alloc (.cells (aF sI).toArray 9)):=Rd.newL w4 sI _;have hszb:W3.heap.size<=(w4.alloc (.cells (aF sI).toArray 9)).heap.size:=bj Nf.size Oy.size;have Yv:h0.length+6<=1000000000:=by rw[<-HH0.out];decide
 obtain⟨HOH,HRB,XI,Pz⟩:=bK hoh2 hrb hszb (Nf.trans (Oy.mono Nf.size));clear hoh Oy hoh2 hrb hszb Nf K4;unfold aF sI at HOH HRB XI Pz;simp only[bw,List.map_nil]at HOH HRB XI Pz;go_wp2_with (at_builtin;refine sW (ys:=sI) W3.heap.size HOH.out XI.out HRB.out Yv rfl _ _ rfl rfl rfl ?_)
 intro v5 w5 P9 Ns _;obtain⟨ga,gc,rfl⟩:=P9.shape;have Rk:=ah (show aQ W3.heap.size (.slice ga (kP 0).length gc) (kP 0) w5 from by rw[<-HH0.out]at P9;exact P9);have hle:(h0++sI).length=(kP 0).length:=by rw[<-HH0.out];rfl
 rw[hle];have Ys:=Pz.out.trans Ns;have y5:=(Ys.block _ (ae Y3.out)).trans Y3.out;have g6:=aS y5 6;have Pi:=ah Ys;have ZG:=ah (bE Nx Og.out.size);clear P9 hle Ns Ys y5 HOH HRB XI Pz Yv;go_upto_region 6 with(fail)
 go_loopw [50,5] (λi bv wr=>∃j:Nat,j<=2/\i=.int .i64 j/\(∃a d,bv=.slice a (kP j).length d/\Hid (aQ W3.heap.size (.slice a (kP j).length d) (kP j) wr))/\Below W3.heap.size W3 wr) (λi _ _=>2-(intOf i).toNat)
 case atStart=>exact⟨0,by decide,rfl,⟨ga,gc,rfl,Rk⟩,Pi.out⟩
 case round=>
  clear Rk Pi g6;obtain⟨j,hj,rfl,⟨a,d,rfl,HO⟩,M_⟩:=hrel;have hj3:j=0\/j=1\/j=2:=by omega
  clear hj;rcases hj3 with rfl|rfl|rfl
  ·have e0:=HCC.out 0 (.string sC) rfl;have e0:=(M_.cell (p:=⟨b,o,none⟩) (by show b<W3.heap.size;have:=ZG.out;omega)).trans ((Og.out.cell (p:=⟨b,o,none⟩) Nx).trans e0);have kt:=λW=>fR sC W (by decide)
   rw[show be (sC:ByteArray).data.toList=true from by decide]at kt;have kl:=λW=>ju sC W (by decide)
   rw[show ai (sC:ByteArray).data.toList=[99,111,111,107,105,101]from by decide]at kl;obtain⟨KT,KLO⟩:=az kt kl;clear kt kl
   go_upto_if 62 with (first
    |(go_at_call 41;(with_reducible refine(KT.out _).mono ?_);rintro e w2 ⟨rfl,rfl⟩)
    |(go_at_call 43;(with_reducible refine(KLO.out _).mono ?_);rintro e w3 ⟨rfl,Na⟩)
    |(go_at_call 42;have Yg:=lU (aQ.below HO.out Na) (by have:=rE 0;omega) [99,111,111,107,105,101];rw[Jr]at Yg;(with_reducible refine Yg.mono ?_);clear Yg;rintro e w4 ⟨rfl,rfl⟩))
   go_wp2_with (first
    |(go_at_call 43;(with_reducible refine(KLO.out _).mono ?_);rintro e w6 ⟨rfl,NP⟩)
    |(at_builtin;refine gq W3.heap.size [99,111,111,107,105,101] (aQ.below (aQ.below HO.out Na) NP) (by have:=M_.size;have:=Na.size;have:=NP.size;omega) (by have:=rE 0;omega) rfl _ _ rfl rfl rfl ?_))
   intro v7 w7 QP NG _;obtain⟨a7,d7,rfl⟩:=QP.shape;have he7:kP 0++[[99,111,111,107,105,101]]=kP 1:=rfl;rw[he7]at QP ⊢;obtain⟨O6,Wl⟩:=az QP (((M_.trans (Na.mono M_.size)).trans (NP.mono (bj M_.size Na.size))).trans NG);clear QP NG NP Na he7;go_wp2_with fail
   go_roundw
   case rel=>exact⟨1,by decide,rfl,⟨a7,d7,rfl,O6⟩,Wl.out⟩
   case measure=>simp[intOf]
  ·have e0:=HCC.out 1 (.string sX) rfl;have e0:=(M_.cell (p:=⟨b,o+1,none⟩) (by show b<W3.heap.size;have:=ZG.out;omega)).trans ((Og.out.cell (p:=⟨b,o+1,none⟩) Nx).trans e0);have kt:=λW=>fR sX W (by decide)
   rw[show be (sX:ByteArray).data.toList=true from by decide]at kt;have kl:=λW=>ju sX W (by decide)
   rw[show ai (sX:ByteArray).data.toList=[120,45,102]from by decide]at kl;obtain⟨KT,KLO⟩:=az kt kl;clear kt kl
   go_upto_if 62 with (first
    |(go_at_call 41;(with_reducible refine(KT.out _).mono ?_);rintro e w2 ⟨rfl,rfl⟩)
    |(go_at_call 43;(with_reducible refine(KLO.out _).mono ?_);rintro e w3 ⟨rfl,Na⟩)
    |(go_at_call 42;have Yg:=lU (aQ.below HO.out Na) (by have:=rE 1;omega) [120,45,102];rw[Je]at Yg;(with_reducible refine Yg.mono ?_);clear Yg;rintro e w4 ⟨rfl,rfl⟩))
   go_wp2_with (first
    |(go_at_call 43;(with_reducible refine(KLO.out _).mono ?_);rintro e w6 ⟨rfl,NP⟩)
    |(at_builtin;refine gq W3.heap.size [120,45,102] (aQ.below (aQ.below HO.out Na) NP) (by have:=M_.size;have:=Na.size;have:=NP.size;omega) (by have:=rE 1;omega) rfl _ _ rfl rfl rfl ?_))
   intro v7 w7 QP NG _;obtain⟨a7,d7,rfl⟩:=QP.shape;have he7:kP 1++[[120,45,102]]=kP 2:=rfl;rw[he7]at QP ⊢;obtain⟨O6,Wl⟩:=az QP (((M_.trans (Na.mono M_.size)).trans (NP.mono (bj M_.size Na.size))).trans NG);clear QP NG NP Na he7;go_wp2_with fail
   go_roundw
   case rel=>exact⟨2,by decide,rfl,⟨a7,d7,rfl,O6⟩,Wl.out⟩
   case measure=>simp[intOf]
  ·have y:=(M_.block _ (ae Y3.out)).trans Y3.out;have g1:=aS y 1;have g2:=aS y 2;have g3:=aS y 3;have g4:=aS y 4;have HB:=ah (Og.out.trans (M_.mono Og.out.size));clear y M_ HO;go_wp2_with (go_at_call 44;(with_reducible refine(Bo _ _ _ (by decide) (by decide)).mono ?_);rintro e w2 ⟨rfl,rfl⟩)
   go_ret;exact⟨rfl,HB.out⟩
theorem aQ.near{v:Value}{fs:List (List UInt8)}{w1:World}(h:aQ B v fs w)(hb:Below w.heap.size w w1):aQ B v fs w1:=aQ.below h hb
theorem Lh{w0:World}(A:Option Addr)(c:Nat)(w:World)(hM:cq w0)(hT:dV w0)(hE:gD w0)(hb:Below w0.heap.size w0 w)(hr:Rd A 2 1 (aF tU) w):Calls Tryz.prog 7 #[pB tE A c] w λe w'=>∃S sb bl CA cc,e=.returned (.tuple #[.pointer (some ⟨S,0,none⟩),.int .i64 0])/\dS w0 w' sb bl 20 100000 [] 0/\w'.heap[S]?=some (.cells (rV sb tE CA cc 0) 68 (0,0))/\w.heap.size<=S/\aQ w.heap.size (.slice CA 2 cc) tU w'/\Below w.heap.size w w':=by
 obtain⟨b,o,rfl,Nx,Zd⟩:=hr.2 (by decide);obtain⟨W0,Nb⟩:=bg w (.cells #[.string iA,.int .i64 20,.int .i64 100000,.int .i64 6,.int .i64 3,.string ir,.slice (some ⟨b,o,none⟩) 2 c] 32);have b0:=bm Nb;have x0:=dU Nb;have VQ:=bt hb b0;have k1:Calls Tryz.prog 19 #[.agg #[.string iA,.int .i64 20,.int .i64 100000,.int .i64 6,.int .i64 3,.string ir,.slice (some ⟨b,o,none⟩) 2 c]] W0 λe w'=>e=.returned (.bool true)/\Below W0.heap.size W0 w':=Me (some ⟨b,o,none⟩) c W0 (hM.below VQ) (hT.on VQ) (hE.below VQ) (hr.below b0)
 have c0:=aS x0 0;have c1:=aS x0 1;have c2:=aS x0 2;have c3:=aS x0 3;have c4:=aS x0 4;have c5:=aS x0 5;have c6:=aS x0 6;obtain⟨Nl,K1,X0,HR,HB,B0⟩:=eN Nb k1 x0 (hr.below b0) hb b0;clear Nb k1 x0 hr hb VQ b0 hM hT hE Zd;unfold pB zU tE;go_enter Tryz.func7,Tryz.ntmps7
 go_upto_region 1 with(fail)
 rw[Nl.out];go_upto_region 3 with(go_at_call 19;(with_reducible refine K1.out.mono ?_);rintro e w1 ⟨rfl,M8⟩)
 have x1:=(M8.block _ (ae X0.out)).trans X0.out;have d6:=aS x1 6;have kc:Calls Tryz.prog 20 #[.slice (some ⟨b,o,none⟩) 2 c] w1 (fi w1 tU):=B_ b o c tU w1 (HR.out.below M8) (by decide);unfold fi at kc;obtain⟨KC,X1,QX,HZ1⟩:=bK kc x1 (bt B0.out M8) M8.size;clear kc x1 M8 c0 c1 c2 c3 c4 c5 c6 K1;go_upto_region 4 with(go_at_call 20;(with_reducible refine KC.out.mono ?_);rintro e w2 ⟨ga,gc,rfl,hO,M9⟩;have x2:=(M9.block _ (ae X1.out)).trans X1.out;have y6:w2.cell? ⟨w.heap.size,6,none⟩=some (.slice (some ⟨b,o,none⟩) 2 c):=(ab x2 6).1;have z6:=(ab x2 6).2.1;have X2:=am x2;have HO:=am hO;have OT:=am (bt QX.out M9);clear hO M9 x2)
 have h3:=aj (j:=6) (v:=.slice ga 2 gc) X2.out;simp only[cH,cI,cF]at h3;obtain⟨W3,NW⟩:=aH (w2.setCell ⟨w.heap.size,6,none⟩ (.slice ga 2 gc));rw[NW]at h3;have Nu:Below w.heap.size w W3:=by rw[<-NW];exact OT.out.setCell (aw _) _
 have hzw:w.heap.size<w1.heap.size:=ae X1.out;have Po:aQ w1.heap.size (.slice ga 2 gc) tU W3:=by rw[<-NW];exact ownsRow_setCell_below HO.out (a:=⟨w.heap.size,6,none⟩) hzw _
 have P4:tU.length=2:=rfl;have Qk:=ah (show w2.setCell ⟨w.heap.size,6,none⟩ (.slice ga tU.length gc)=W3 from NW);obtain⟨Og,Ob,X3⟩:=bu Nu Po h3;have e0:=aS h3 0;have e1:=aS h3 1;have e2:=aS h3 2;have kn:=Em 20 100000 W3.drew (by decide) (by decide);have KN:=ah kn;have kf:∀W,Below W3.heap.size W3 W->W.heap[w.heap.size]?=some (.cells #[.string iA,.int .i64 20,.int .i64 100000,.int .i64 6,.int .i64 3,.string ir,.slice ga 2 gc] 32 (0,0)):=λW h=>(h.block _ (ae X3.out)).trans X3.out
 have KF:=ah kf;clear NW h3 Nu Po P4 kn kf hzw d6 y6 z6 KC HO X1 X2
 have kg:∀w',Below W3.heap.size W3 w'->w'.cell? ⟨w.heap.size,0,none⟩=some (.string iA)/\w'.cell? ⟨w.heap.size,1,none⟩=some (.int .i64 20)/\w'.cell? ⟨w.heap.size,2,none⟩=some (.int .i64 100000)/\w'.cell? ⟨w.heap.size,3,none⟩=some (.int .i64 6)/\w'.cell? ⟨w.heap.size,4,none⟩=some (.int .i64 3)/\w'.cell? ⟨w.heap.size,5,none⟩=some (.string ir)/\w'.cell? ⟨w.heap.size,6,none⟩=some (.slice ga 2 gc):=λW h=>by have Pn:=KF.out W h;exact⟨(ab Pn 0).1,(ab Pn 1).1,(ab Pn 2).1,(ab Pn 3).1,(ab Pn 4).1,(ab Pn 5).1,(ab Pn 6).1⟩
 have KG:=ah kg;clear kg e0 e1 e2;rw[Qk.out];refine wp_region_held_drew (S:=λw'=>w'.cell? ⟨w.heap.size,0,none⟩=some (.string iA)/\w'.cell? ⟨w.heap.size,1,none⟩=some (.int .i64 20)/\w'.cell? ⟨w.heap.size,2,none⟩=some (.int .i64 100000)/\w'.cell? ⟨w.heap.size,3,none⟩=some (.int .i64 6)/\w'.cell? ⟨w.heap.size,4,none⟩=some (.int .i64 3)/\w'.cell? ⟨w.heap.size,5,none⟩=some (.string ir)/\w'.cell? ⟨w.heap.size,6,none⟩=some (.slice ga 2 gc)) (by kernel_rfl) (KG.out _ (aO _ W3).drew) (λM7=>?_);refine aX 0 1 2 3 M7 ?_;refine fM 5 M7 ?_;refine cL 4 λK hK=>?_
 go_simp;refine KN.out.mono ?_;rintro e w4 ⟨sb,fp,bl,rfl,Nd,Nf,TT⟩;have Pz:=ah (((aO _ W3).drew).trans Nf);have HG:=ah (aB Nd TT);have Pn:=KF.out w4 Pz.out;have Sp:=ah Pn;clear Nd Nf TT Pn;go_wp2_with fail
 refine hK.out _ _ (KG.out _ Pz.out) (λM7=>?_);clear hK K;refine fM 6 M7 ?_;have Pi:=ah (Pz.out.trans ((aV w4 (.cells #[.pointer (some ⟨sb,0,none⟩),.string iA,.int .i64 20,.int .i64 100000,.int .i64 6,.int .i64 3,.string ir,.slice ga 2 gc,.int .i64 0] 68)).mono Pz.out.size));refine cL 7 λK hK=>?_
 go_simp;refine hK.out _ _ (KG.out _ Pi.out) (λM7=>?_);clear hK K;refine eC 8 9 M7 ?_;refine wpAnyH_done (by kernel_rfl) ?_ _;clear M7;have Ns:=aV w4 (.cells #[.pointer (some ⟨sb,0,none⟩),.string iA,.int .i64 20,.int .i64 100000,.int .i64 6,.int .i64 3,.string ir,.slice ga 2 gc,.int .i64 0] 68);have hzz:W3.heap.size<=w4.heap.size:=Pz.out.size;have VF:w.heap.size<=W3.heap.size:=Og.out.size;have Z8:dS w0 (w4.alloc (.cells #[.pointer (some ⟨sb,0,none⟩),.string iA,.int .i64 20,.int .i64 100000,.int .i64 6,.int .i64 3,.string ir,.slice ga 2 gc,.int .i64 0] 68)) sb bl 20 100000 [] 0:=⟨fp,HG.out.1.below Ns,bt (bt HB.out (Og.out.trans (Pz.out.mono VF))) Ns,λx hx=>bj HB.out.size (bj VF (HG.out.2 x hx))⟩
 have HF:=ah (aB Z8 (aB (ay w4 (.cells #[.pointer (some ⟨sb,0,none⟩),.string iA,.int .i64 20,.int .i64 100000,.int .i64 6,.int .i64 3,.string ir,.slice ga 2 gc,.int .i64 0] 68) _ rfl) (aB (bj VF hzz) (aB (aQ.base (B':=w.heap.size) (aQ.below (aQ.near Ob.out Pz.out) Ns) (by have:=QX.out.size;omega)) (bt (Og.out.trans (Pz.out.mono VF)) Ns)))));clear Z8 Ns;go_wp2_with fail
 go_ret2
 exact⟨w4.heap.size,sb,bl,ga,gc,rfl,HF.out⟩
theorem rJ(w:World):Calls Tryz.prog 8 #[] w λe w'=>∃a c,e=.returned (pB tE a c)/\Rd a 2 1 (aF tU) w'/\Below w.heap.size w w':=by
 have x0:=ay w De _ rfl;have b0:=aV w De;have z0:(w.alloc De).heap.size=w.heap.size+1:=by simp
 obtain⟨W0,Nb⟩:=bg w De;rw[Nb]at x0 b0 z0;have c0:=aS x0 0;have c1:=aS x0 1;have c2:=aS x0 2;have c3:=aS x0 3;have c4:=aS x0 4;have c5:=aS x0 5;have c6:=aS x0 6;have f0:=λj:Nat=>(ab x0 j).2.1
 have h7:=(aj (j:=6) (v:=.slice (some ⟨w.heap.size+1,0,none⟩) 2 2) (aj (j:=5) (v:=.string ir) (aj (j:=4) (v:=.int .i64 3) (aj (j:=3) (v:=.int .i64 6) (aj (j:=2) (v:=.int .i64 100000) (aj (j:=1) (v:=.int .i64 20) (aj (j:=0) (v:=.string iA) x0)))))));simp only[cH,cI,cF]at h7;have QO:=((((((((ap.refl w.heap.size W0).set 0 (.string iA)).set 1 (.int .i64 20)).set 2 (.int .i64 100000)).set 3 (.int .i64 6)).set 4 (.int .i64 3)).set 5 (.string ir)).set 6 (.slice (some ⟨w.heap.size+1,0,none⟩) 2 2))
 have zS:((((((((W0.setCell ⟨w.heap.size,0,none⟩ (.string iA)).setCell ⟨w.heap.size,1,none⟩ (.int .i64 20)).setCell ⟨w.heap.size,2,none⟩ (.int .i64 100000)).setCell ⟨w.heap.size,3,none⟩ (.int .i64 6)).setCell ⟨w.heap.size,4,none⟩ (.int .i64 3)).setCell ⟨w.heap.size,5,none⟩ (.string ir)).setCell ⟨w.heap.size,6,none⟩ (.slice (some ⟨w.heap.size+1,0,none⟩) 2 2))).heap.size=w.heap.size+1:=by simp[z0]
 generalize hWS:(((((((W0.setCell ⟨w.heap.size,0,none⟩ (.string iA)).setCell ⟨w.heap.size,1,none⟩ (.int .i64 20)).setCell ⟨w.heap.size,2,none⟩ (.int .i64 100000)).setCell ⟨w.heap.size,3,none⟩ (.int .i64 6)).setCell ⟨w.heap.size,4,none⟩ (.int .i64 3)).setCell ⟨w.heap.size,5,none⟩ (.string ir)).setCell ⟨w.heap.size,6,none⟩ (.slice (some ⟨w.heap.size+1,0,none⟩) 2 2))=WS at*;have bA:=aV WS (.cells #[.string sC,.string sX] 9);have hr:Rd (some ⟨w.heap.size+1,0,none⟩) 2 1 (aF tU) (WS.alloc (.cells #[.string sC,.string sX] 9)):=by rw[<-zS];exact Rd.newL WS tU _
 have HF:=ah (aB ((bA.block _ (ae h7)).trans h7) (aB hr ((b0.trans QO.1).trans (bA.mono (by omega)))));obtain⟨Nl,HWS⟩:=az Nb hWS;clear h7 QO zS bA hr Nb hWS x0 b0;go_enter Tryz.func8,Tryz.ntmps8
 go_upto_region 1 with(fail)
 rw[Nl.out];go_wp2_with fail
 rw[HWS.out];obtain⟨h1,h2,h3⟩:=HF.out;have b0:=(ab h1 0).1;have b1:=(ab h1 1).1;have b2:=(ab h1 2).1;have b3:=(ab h1 3).1;have b4:=(ab h1 4).1;have b5:=(ab h1 5).1;have b6:=(ab h1 6).1;simp only[cT,cS,cv]at b0 b1 b2 b3 b4 b5 b6;refine bodyPost_ret_by (v:=pB tE (some ⟨w.heap.size+1,0,none⟩) 2) ?_ rfl ?_
 ·unfold pB zU tE;simp[results,Tryz.results8,go_sem,b0,b1,b2,b3,b4,b5,b6]
 ·exact⟨_,_,rfl,h2,h3⟩
def lZ(s:List UInt8):Bool:=((ep s false).2.2==0)&&((ep s false).2.1==s.length)
theorem oA(s:ByteArray)(w:World)(hM:cq w)(hE:gD w)(hs:s.size<=140737488351232):Calls Tryz.prog 10 #[.string s] w λe w'=>∃A c,e=.returned (.tuple #[iv (ep s.data.toList false).1 A c,.bool (lZ s.data.toList)])/\aM w.heap.size (.slice A (ep s.data.toList false).1.fields.length c) (ep s.data.toList false).1.fields w'/\Below w.heap.size w w':=by
 obtain⟨W0,Nb⟩:=bg w (.cells #[.int .i64 0,.string ⟨#[]⟩,.int .i64 0,.slice none 0 0,.string ⟨#[]⟩] 41);have b0:=bm Nb;have x0:=dU Nb;have z0:w.heap.size+1=W0.heap.size:=by rw[<-Nb];simp
 have k1:=yn s false W0 (hM.below b0) (hE.below b0) hs;unfold lZ;generalize ep s.data.toList false=RM at*;obtain⟨⟨st,re,mi,xs,bo⟩,us,er⟩:=RM;unfold iv at k1 ⊢;simp only at k1 ⊢
 obtain⟨Nl,K1,X0,B0,Z0⟩:=gB Nb k1 x0 b0 z0;clear Nb k1 x0 b0 hM hE z0;rw[<-aY];go_enter Tryz.func10,Tryz.ntmps10
 go_upto_region 1 with(fail)
 rw[Nl.out];go_upto_region 2 with(go_at_call 23;(with_reducible refine K1.out.mono ?_);rintro e w1 ⟨A,c,rfl,Nr,M8⟩)
 obtain⟨W2,Nw⟩:=bg w1 (.cells #[.int .i64 st,.string ⟨re.toArray⟩,.int .i64 mi,.slice A xs.length c,.string ⟨bo.toArray⟩] 41);have b2:=bm Nw;have y2:=dU Nw;have M9:=bt M8 b2;have x2:=(M9.block _ (ae X0.out)).trans X0.out;have r0:=aS y2 0;have r1:=aS y2 1;have r2:=aS y2 2;have r3:=aS y2 3;have r4:=aS y2 4;have c0:=aS x2 0;have c1:=aS x2 1;have c2:=aS x2 2;have c3:=aS x2 3;have c4:=aS x2 4;have f0:=λj:Nat=>(ab x2 j).2.1
 have h7:=(aj (j:=4) (v:=.string ⟨bo.toArray⟩) (aj (j:=3) (v:=.slice A xs.length c) (aj (j:=2) (v:=.int .i64 mi) (aj (j:=1) (v:=.string ⟨re.toArray⟩) (aj (j:=0) (v:=.int .i64 st) x2)))));simp only[cH,cI,cF]at h7;have QO:=((((((ap.refl w.heap.size W2).set 0 (.int .i64 st)).set 1 (.string ⟨re.toArray⟩)).set 2 (.int .i64 mi)).set 3 (.slice A xs.length c)).set 4 (.string ⟨bo.toArray⟩));have N_:=Z0.out;have QP:=bi (aM.below Nr b2) QO (by omega);have HF:=ah (aB h7 (aB (aM.base (B':=w.heap.size) QP (by omega)) ((bt B0.out M9).trans QO.1)));have Of:=ah Nw;have tz:((us:Int)==(s.size:Int))=(us==s.size):=by rw[jj];simp;omega
 have HT:=ah tz;clear h7 QO QP Nw x2 y2 b2 M9 M8 Nr tz N_ K1;rw[Of.out]
 cases h1:(er==0)
 all_goals
  go_wp2_with fail
  obtain⟨g1,g2,g3⟩:=HF.out;have b0:=(ab g1 0).1;have b1:=(ab g1 1).1;have b2:=(ab g1 2).1;have b3:=(ab g1 3).1;have b4:=(ab g1 4).1;simp only[cT,cS,cv]at b0 b1 b2 b3 b4
 ·refine bodyPost_ret_by (v:=.tuple #[.agg #[.int .i64 st,.string ⟨re.toArray⟩,.int .i64 mi,.slice A xs.length c,.string ⟨bo.toArray⟩],.bool false]) ?_ rfl ?_
  ·simp[results,Tryz.results10,go_sem,b0,b1,b2,b3,b4]
  ·exact⟨A,c,by rw[h1];rfl,g2,g3⟩
 ·refine bodyPost_ret_by (v:=.tuple #[.agg #[.int .i64 st,.string ⟨re.toArray⟩,.int .i64 mi,.slice A xs.length c,.string ⟨bo.toArray⟩],.bool (us==s.size)]) ?_ rfl ?_
  ·rw[<-HT.out];simp[results,Tryz.results10,go_sem,b0,b1,b2,b3,b4]
  ·exact⟨A,c,by rw[h1];rfl,g2,g3⟩
theorem uN{S:Nat}{v:Value}{fs:List (List UInt8)}{w1:World}(h:aQ B v fs w)(hk:cR S w w1){cs:Array Value}{z:Nat × Nat}(hS:w.heap[S]?=some (.cells cs 68 z)):aQ B v fs w1:=by
 obtain⟨h4,h5⟩:=h;refine⟨h4,?_⟩;rcases h5 with h5|⟨g,cap,cur,hv,hg,hh,r⟩
 ·exact Or.inl h5
 ·refine Or.inr ⟨g,cap,cur,hv,hg,hk.2 g _ _ _ hh (λe=>?_) (by decide) (by decide) (by decide),r⟩;rw[e,hS]at hh;injection hh with hh
  injection hh with _ hh _
  exact absurd hh (by decide)
def LB:List UInt8:=[71,69,84,32,47,32,72,84,84,80,47,49,46,49,13,10,72,111,115,116,58,32,104,13,10,13,10]
def Aq:List UInt8:=[72,84,84,80,47,49,46,49,32,50,48,48,32,79,75,13,10,13,10,121]
def yp:oV:=⟨[71,69,84],[47],1,[([72,111,115,116],[104])],[]⟩
def mF:lu:=⟨200,[79,75],1,[],[121]⟩
theorem Bq:rl LB=(yp,27,0):=by kernel_rfl
theorem Ci:ep Aq false=(mF,20,0):=by kernel_rfl
theorem Mz:(fx [104] yp).2=true:=by kernel_rfl
theorem DS:(fx [104] yp).1.path.length+(fx [104] yp).1.query.length<=400:=by rw[show(fx [104] yp).1=⟨[104,116,116,112],[104],0,[47],[],false⟩from by kernel_rfl];decide
def rj:List UInt8:=(co (rh ⟨mF.status,mF.reason,mF.minor,aI mF.fields,mF.body⟩ (iI (dz (aI mF.fields) 5 5 5)).data.toList ((mF.status==200)&&jr yp.fields (aI mF.fields) 5)) false).1
theorem ou:(ep rj false).1.status=200/\(ep rj false).1.body=[121]/\lZ rj=true:=by
 refine⟨?_,?_,?_⟩
 ·kernel_rfl
 ·kernel_rfl
 ·kernel_rfl
theorem BL:(⟨rj.toArray⟩:ByteArray).size<=140737488351232:=by
 have h:decide (rj.length<=1000)=true:=by kernel_rfl
 have h2:=of_decide_eq_true h;rw[dj];omega
theorem JR:∀nm,(co (rh ⟨mF.status,mF.reason,mF.minor,aI mF.fields,mF.body⟩ (iI (dz (aI mF.fields) 5 5 5)).data.toList nm) false).2=0:=by
 intro nm
 cases nm
 ·kernel_rfl
 ·kernel_rfl
theorem MS:((mF.status==200)&&(vj (af (aI mF.fields) jb) tE.dev).esi)=false:=by kernel_rfl
theorem vV(w:World)(hD:d9 w)(hT:dV w)(hE:gD w):Calls Tryz.prog 6 #[] w λe w'=>e=.returned (.bool true)/\Below w.heap.size w w':=by
 obtain⟨K1,HD,HT,HE⟩:=bK (rJ w) hD hT hE;clear hD hT hE;go_enter Tryz.func6,Tryz.ntmps6
 go_upto_region 1 with(fail)
 go_wp2_with fail
 refine K1.out.mono ?_;rintro e w1 ⟨a,c,rfl,O0,M8⟩;have K2:=ah (Lh (w0:=w) a c w1 HD.out.1 HT.out HE.out M8 O0);clear K1 O0;go_wp2_with fail
 refine K2.out.mono ?_;rintro e w2 ⟨S,sb,bl,CA,cc,rfl,Nq,O8,hzS,On,M9⟩;have hx3:=aV w2 (.cells #[.string ⟨Aq.toArray⟩,.bool true] 62);have Vz:=ay w2 (.cells #[.string ⟨Aq.toArray⟩,.bool true] 62) _ rfl;have Ye:=(hx3.block _ (ae O8)).trans O8;have Po:=aQ.below On hx3;have hwS:w.heap.size<=S:=bj M8.size hzS;have kd:=Hj (Nq.below hx3) S tE CA cc w2.heap.size 0 1 1 0 5 _ ⟨Aq.toArray⟩ ⟨LB.toArray⟩ yp mF HD.out HT.out HE.out hwS Ye (λW hk=>(aQ.rd (uN Po hk Ye)).2) ⟨by decide,by decide⟩ Vz rfl rfl Bq (by decide) rfl rfl (by decide) (by decide) (by decide) (by decide) rfl (by decide) (λ_=>DS) Ci (by decide) ⟨by decide,by decide⟩ (by decide) (by decide) (by decide) (by decide) (by decide) ⟨by decide,by decide⟩ ⟨by decide,by decide⟩ ⟨by decide,by decide⟩ MS JR;unfold LB Aq at kd
 have K3:=ah kd;clear kd Nq O8 On hx3 Vz Ye Po K2;go_upto_region 4 with(fail)
 go_wp2_with fail
 refine K3.out.mono ?_;rintro e w4 ⟨k',NE,put',rfl,ht,Te,-,-,-,-⟩;have Ny:=Te.base;unfold uv at ht;rcases ht with⟨h1,-⟩|⟨-,h1,⟨aa,ca,h2⟩,h3,⟨rv,rn,rc,h4⟩⟩
 ·have Ul:(fx [104] yp).2=false:=h1;rw[Mz]at Ul
  cases Ul
 have Ul:k'.resp=⟨rj.toArray⟩:=h1;rw[Ul,h2,h3,h4];obtain⟨W5,OH⟩:=bg w4 (.cells #[.string ⟨rj.toArray⟩,.slice aa 1 ca,.int .i64 1,.slice rv rn rc] 49);have b5:=bm OH;have x5:=dU OH;have Ns:=bt Ny b5;have kr:=oA ⟨rj.toArray⟩ W5 (HD.out.1.below Ns) (HE.out.below Ns) BL;rw[show(⟨rj.toArray⟩:ByteArray).data.toList=rj from rfl,ou.2.2]at kr;have Nd:=ou.1;have O9:=ou.2.1;generalize ep rj false=RM at*;obtain⟨⟨st,re,mi,xs,bo⟩,us,er⟩:=RM;simp only at Nd O9
 subst Nd O9;unfold iv at kr;simp only at kr
 generalize rj=oa at*;have o0:=aS x5 0;have o1:=aS x5 1;have o2:=aS x5 2;obtain⟨XD,KR,X5,Pi⟩:=bK OH kr x5 Ns;clear OH kr x5 Ns b5 h1 Ul h2 h3 h4 K3 Te Ny;go_upto_region 5 with(fail)
 rw[XD.out];go_wp2_with fail
 refine KR.out.mono ?_;rintro e w6 ⟨A,cr,rfl,-,NP⟩;obtain⟨W7,Pt⟩:=bg w6 (.cells #[.int .i64 200,.string ⟨re.toArray⟩,.int .i64 mi,.slice A xs.length cr,.string ⟨#[121]⟩] 41);have b7:=bm Pt;have x7:=dU Pt;have y7:=(b7.block _ (ae ((NP.block _ (ae X5.out)).trans X5.out))).trans ((NP.block _ (ae X5.out)).trans X5.out);have r0:=aS x7 0;have r4:=aS x7 4;have p1:=aS y7 1;have p2:=aS y7 2;obtain⟨TH,Wl⟩:=az Pt (bt (bt Pi.out NP) b7);clear Pt x7 y7 b7 NP o0 o1 o2 KR;go_upto_region 6 with(fail)
 rw[TH.out];go_wp2_with fail
 go_ret;exact⟨rfl,Wl.out⟩
def wB(tg:List UInt8)(xs:List aU):oV:=⟨mE,tg,1,([72,111,115,116],[104])::xs,[]⟩
theorem aM.lit1(w:World)(fs:List aU)(h:fs.length<=1000000):aM w.heap.size (.slice (some ⟨w.heap.size,0,none⟩) fs.length fs.length) fs (w.alloc (.cells (aJ fs).toArray 70)):=by
 refine⟨eI fs,Or.inr ⟨w.heap.size,fs.length,(aJ fs).toArray,rfl,aw _,?_,aw _,?_,?_,?_⟩⟩
 ·exact ay _ _ _ rfl
 ·unfold maxLen;omega
 ·rw[List.size_toArray,eI]
 ·exact jJ (by rw[eI];exact aw _)
theorem EE(tg b:ByteArray)(A:Option Addr)(n c:Nat)(xs:List aU)(wt:Int)(f:Bool)(w:World)(hT:dV w)(hr:Rd A n 2 (aJ xs) w)(hn:n<=350000)(hs:aE xs<=1050000)(Vx:tg.size<=2000000):Calls Tryz.prog 9 #[.agg #[.string tg,.slice A n c,.int .u32 wt,.string b,.bool f]] w λe w'=>e=.returned (.string ⟨(cm (wB tg.data.toList xs)).1.toArray⟩)/\Below w.heap.size w w':=by
 obtain⟨W0,Nb⟩:=bg w (.cells #[.string tg,.slice A n c,.int .u32 wt,.string b,.bool f] 38);have b0:=bm Nb;have x0:=dU Nb;obtain⟨W1,Ne⟩:=bg W0 (.cells #[.string ⟨#[72,111,115,116]⟩,.string iA] 70);have b1:=bm Ne;have o1:aM W0.heap.size (.slice (some ⟨W0.heap.size,0,none⟩) 1 1) [([72,111,115,116],[104])] W1:=by rw[<-Ne];exact aM.lit1 W0 [([72,111,115,116],[104])] (by simp)
 have x1:=(b1.block _ (ae x0)).trans x0;have B1:Below w.heap.size w W1:=bt b0 b1;have c0:=aS x1 0;have c1:=aS x1 1;have N_:w.heap.size<W0.heap.size:=ae x0;have NZ:=b1.size;have O0:=hr.below B1;obtain rfl:=hr.fld;have Nc:=ae x1;have K1:=ah (λA' c' W(h:Below w.heap.size w W)hr'=>Be (wB tg.data.toList xs) A' c' W (hT.on h) hr' (by show(_::xs).length<=_;simp;omega) (by unfold wB aE at*;simp only[bw,dG]at*;simp;omega) ⟨show(0:Int)<=1 by decide,show(1:Int)<=1 by decide⟩ (show mE.length<=_ by decide) (by show tg.data.toList.length<=_;rw[<-aY];omega) rfl (show mn.contains mE=false by decide));obtain⟨Nl,NC,HX⟩:=bu Nb Ne x1;clear Nb Ne b0 b1 x0 hr;go_enter Tryz.func9,Tryz.ntmps9
 go_upto_region 1 with(fail)
 rw[Nl.out];go_upto_region 2 with(fail)
 rw[NC.out];go_wp2_with (at_builtin;refine tr W0.heap.size o1 NZ O0 (by simp;omega) rfl _ _ rfl rfl rfl ?_)
 intro v2 w2 Nz M9 _;obtain⟨a2,cap2,rfl⟩:=Nz.shape;have B2:=B1.trans (M9.mono (dF N_));have d0:w2.cell? ⟨w.heap.size,0,none⟩=some (.string tg):=(M9.cell (p:=⟨w.heap.size,0,none⟩) N_).trans c0;have k1:=K1.out a2 cap2 w2 B2 Nz.rd.2;unfold uu at k1;obtain⟨KK,OT⟩:=az k1 B2;have he:(wB tg.data.toList xs).target=tg.data.toList:=rfl;clear K1 hT hs O0 c0 c1 M9 HX hn k1 B2 Nz;go_wp2_with fail
 refine KK.out.mono ?_;rintro e w3 ⟨rfl,Na⟩;have Og:=bt OT.out Na;go_wp2;go_ret;exact⟨rfl,Og⟩
theorem pk{α β:Type}{e:Int}{a:α}{b:β}{x:α × β × Int}{r:α}{n:β}(h:(bif e !=0 then(a,b,e)else x)=(r,n,0)):e=0/\x=(r,n,0):=by
 cases h1:(e !=0)
 ·rw[h1,cond_false]at h;exact⟨by simpa using h1,h⟩
 ·rw[h1,cond_true]at h;injection h with _ h
  injection h with _ h
  rw[h]at h1;simp at h1
theorem sj{b:List UInt8}{hd:Bool}{rep:lu}{n:Nat}(h:ep b hd=(rep,n,0)):ce (aD b).start=⟨rep.status,rep.reason,rep.minor,0⟩/\bn (aD b).lines=(rep.fields,0)/\(dB (aD b).rest (aD b).long (cC rep.fields rep.status hd) 262144).body=rep.body/\(dB (aD b).rest (aD b).long (cC rep.fields rep.status hd) 262144).err=0:=by
 unfold ep at h;simp only at h
 generalize aD b=H at*;obtain⟨_,h⟩:=pk h;obtain⟨h1,h⟩:=pk h;obtain⟨h2,h⟩:=pk h;obtain⟨_,h⟩:=pk h;obtain⟨h4,h⟩:=pk h;injection h with h5 h6
 subst h5;refine⟨?_,?_,rfl,h4⟩
 ·generalize ce H.start=S at*;obtain⟨a,b,c,d⟩:=S;simp only at h1
  rw[h1]
 ·rw[<-h2]
theorem zF(s:List UInt8):(aD s).lines.length<=s.length/\(aD s).rest.length<=s.length:=by
 unfold aD
 cases decide (Lib.index (s.take 8192) (aK++aK)<0)
 ·simp only[cond_false];have h:=(h_ (s.take ((Lib.index (s.take 8192) (aK++aK)).toNat+2)) aK).2;rw[dm]at h;exact⟨by omega,by rw[gH];omega⟩
 ·simp
theorem I7{l:List UInt8}:(lA l).1.length+(lA l).2.length<=l.length:=by
 unfold lA;simp only
 have h:=lr (Lib.cut l [58]).2.1
 cases hx:(Lib.cut l [58]).2.2
 ·unfold Lib.cut at*;by_cases h0:0<=Lib.index l [58]
  ·rw[if_pos h0]at hx;cases hx
  ·rw[if_neg h0]at*;simp[bT,Lib.trimS,Lib.trimLeftS,Lib.trimRightS]
 ·have:=(j_ hx).1;omega
theorem yJ:∀(n:Nat)(s:List UInt8)(acc:List aU),aE (pW n s acc).1<=aE acc+s.length
 |0,s,acc=>by unfold pW;simp only;omega
 |n+1,s,acc=>by
  have hz:aE ([]:List aU)=0:=rfl;unfold pW
  cases s.isEmpty<;>simp only[cond_true,cond_false]
  ·cases hc:(Lib.cut s aK).2.2<;>simp only[di,iC,cond_true,cond_false]
   ·omega
   ·cases(acc.length==64)<;>simp only[cond_true,cond_false]
    ·cases(nL (Lib.cut s aK).1 !=0)<;>simp only[cond_true,cond_false]
     ·have h1:=yJ n (Lib.cut s aK).2.1 (acc++[lA (Lib.cut s aK).1]);have h2:=(j_ hc).1;have h3:=@I7 (Lib.cut s aK).1;rw[gj]at h1;have h4:aE [lA (Lib.cut s aK).1]=(lA (Lib.cut s aK).1).1.length+(lA (Lib.cut s aK).1).2.length:=by simp[aE]
      omega
     ·omega
    ·omega
  ·omega
theorem xD(s:List UInt8):aE (bn s).1<=s.length:=by have:=yJ (s.length+1) s [];have hz:aE ([]:List aU)=0:=rfl;unfold bn si;omega
theorem G_{s w:List UInt8}{st mi:Int}(h:ce s=⟨st,w,mi,0⟩):100<=st/\st<=599/\aZ iO w=true/\w.length+13<=2048/\0<=mi/\mi<=1:=by
 unfold ce at h
 cases h0:decide (2048<s.length)
 ·rw[h0,cond_false]at h;simp only[decide_eq_false_iff_not,Nat.not_lt]at h0;simp only at h
  have k1:=@j_ s [32];generalize Lib.cut s [32]=c1 at*;obtain⟨a1,a2,a3⟩:=c1;simp only at h k1
  have k2:=@j_ a2 [32];generalize Lib.cut a2 [32]=c2 at*;obtain⟨b1,b2,b3⟩:=c2;simp only at h k2
  generalize hb:(!a3||!b3||!aZ iO b2||!aZ nJ b1||(b1.length !=3)||decide ((b1.getD 0 0).toNat<49)||decide (53<(b1.getD 0 0).toNat))=bad at h
  cases bad
  ·simp only[qV]at hb;obtain⟨⟨⟨⟨⟨⟨e1,e2⟩,e3⟩,e4⟩,e5⟩,e6⟩,e7⟩:=hb;have e1:a3=true:=by simpa using e1
   have e2:b3=true:=by simpa using e2
   have k1:=(k1 e1).1;have k2:=(k2 e2).1;rw[show([32]:List UInt8).length=1 from rfl]at k1 k2;have e5:b1.length=3:=by simpa using e5
   have e6:49<=(b1.getD 0 0).toNat:=by simpa using e6
   have e7:(b1.getD 0 0).toNat<=53:=by simpa using e7
   have e4:aZ nJ b1=true:=by simpa using e4
   cases hv:((jt false a1).2==0)
   ·rw[hv,cond_false]at h;injection h with _ _ _ h
    rw[h]at hv;simp at hv
   ·rw[hv,cond_true]at h;injection h with h1 h2 h3 _
    subst h1 h2 h3
    have hv8:a1.length=8/\0<=(jt false a1).1/\(jt false a1).1<=1:=by
     unfold jt at*
     cases hq:(false||!jT.isPrefixOf a1||(a1.length !=8)||!f_ (a1.getD 5 0)||(a1.getD 6 0 !=46)||!f_ (a1.getD 7 0))
     ·rw[cond_false];simp only[qV]at hq;obtain⟨⟨⟨⟨_,q1⟩,_⟩,_⟩,_⟩:=hq;refine⟨by simpa using q1,?_⟩
      cases(a1.getD 5 0 !=49)
      ·simp only[cond_false]
       cases(a1.getD 7 0==48)
       ·exact⟨by decide,by decide⟩
       ·exact⟨by decide,by decide⟩
      ·rw[cond_true];decide
     ·rw[hq]at hv;cases hv
    match b1,e5 with
    | [x,y,z],_=>
     have hx:49<=x.toNat/\x.toNat<=53:=⟨e6,e7⟩;unfold aZ at e4;simp only[jh,List.all_nil,kN,eA]at e4;obtain⟨_,y1,z1⟩:=e4;have hy:48<=y.toNat/\y.toNat<=57:=by simpa[fq,nJ]using y1
     have hz:48<=z.toNat/\z.toNat<=57:=by simpa[fq,nJ]using z1
     have hd:cx [x,y,z]=10*(10*(x.toNat-48)+(y.toNat-48))+(z.toNat-48):=by simp[cx]
     refine⟨?_,?_,by simpa using e3,?_,hv8.2.1,hv8.2.2⟩
     ·rw[hd];omega
     ·rw[hd];omega
     ·simp at k2;omega
  ·rw[pu]at h;injection h with _ _ _ h
   cases h
 ·rw[h0]at h;cases h
theorem FR{st:Int}{w:List UInt8}(h1:100<=st)(h2:st<=599)(h3:aZ iO w=true)(h4:w.length+13<=2048):(ee st w 1).2=0/\(ee st w 1).1.length<=2048:=by
 have hi:(Lib.itoa st).length=3:=by have:=(sP ⟨st.toNat,by omega⟩ (by show 100<=st.toNat;omega)).1;rwa [show((st.toNat:Nat):Int)=st from by omega]at this
 unfold ee iu
 have hl:(fO++(Lib.itoa 1++([32]++(Lib.itoa st++([32]++w))))).length=w.length+13:=by simp only[bP,hi];rw[show fO.length=7 from rfl,show(Lib.itoa 1).length=1 from by rw[rS];rfl];simp;omega
 rw[decide_eq_false (by omega),decide_eq_false (by omega),h3];simp only[di,Bool.or_self,show decide ((1:Int)<0)=false from by decide,show decide ((1:Int)<1)=false from by decide,cond_false];rw[hl,decide_eq_false (by omega),cond_false];exact⟨rfl,by rw[hl];exact h4⟩
theorem Ff{b:List UInt8}{rep:lu}{n:Nat}(h:ep b false=(rep,n,0))(hb:gV rep.status=true):rep.body=[]:=by
 obtain⟨_,_,h3,h4⟩:=sj h;rw[<-h3];unfold cC;rw[hb,Bool.or_true]
 cases((kX rep.fields 3).err !=0)
 ·simp only[cond_false,cond_true];unfold dB;simp
 ·simp only[cond_true];unfold dB;simp
theorem x_(Nh:Nat):∀(k:Nat)(r acc:List UInt8)(used:Nat),acc.length<=Nh->(rm Nh k r acc used).body.length<=Nh
 |0,_,_,_,_=>by simp[rm]
 |k+1,r,acc,used,h=>by
  unfold rm;simp only
  cases((iU r aK 2050).2 !=0)<;>simp only[cond_true,cond_false]
  ·generalize nU (r.take (iU r aK 2050).1.toNat)=z;generalize r.drop ((iU r aK 2050).1.toNat+2)=r1;generalize used+((iU r aK 2050).1.toNat+2)=u1
   cases(z.2 !=0)<;>simp only[cond_true,cond_false]
   ·cases(z.1==0)<;>simp only[cond_true,cond_false]
    ·cases hz:decide (Nh-acc.length<z.1)<;>simp only[cond_true,cond_false]
     ·cases decide (r1.length<z.1)<;>simp only[cond_true,cond_false]
      ·cases(!aK.isPrefixOf (r1.drop z.1))<;>simp only[cond_true,cond_false]
       ·refine x_ Nh k _ _ _ ?_;simp only[decide_eq_false_iff_not,Nat.not_lt]at hz;rw[bP,dm];omega
       ·simp
      ·simp
     ·simp
    ·unfold qT
     cases aK.isPrefixOf r1<;>simp only[cond_true,cond_false]
     ·cases((iU r1 (aK++aK) 8192).2 !=0)<;>simp only[cond_true,cond_false]
      ·cases((bn (r1.take (iU r1 (aK++aK) 8192).1.toNat++aK)).2==0)<;>simp only[cond_true,cond_false]
       ·simp
       ·exact h
      ·simp
     ·exact h
   ·simp
  ·simp
theorem FD(rest:List UInt8)(long:Nat)(f:JJ)(Nh:Nat)(hr:rest.length<=Nh):(dB rest long f Nh).body.length<=Nh:=by
 unfold dB
 cases(f.kind==1)<;>simp only[cond_true,cond_false]
 ·cases(f.kind==2)<;>simp only[cond_true,cond_false]
  ·cases(f.kind==3)<;>simp only[cond_true,cond_false]
   ·simp
   ·cases decide (Nh<rest.length)<;>simp only[cond_true,cond_false]
    ·exact hr
    ·simp
  ·cases((ri rest Nh).err==0)<;>simp only[cond_true,cond_false]
   ·simp
   ·exact x_ Nh _ _ _ _ (a_ _)
 ·cases decide ((rest.length:Int)<f.n)<;>simp only[cond_true,cond_false]
  ·rw[dm];omega
  ·simp
theorem nG{xs:List aU}(h:∀f∈xs,fP f)(names:List (List UInt8)):∀f∈dL xs names,fP f:=λf hf=>h f (lD.1 hf).1
structure Mx(rep:lu):Prop where
 st:100<=rep.status/\rep.status<=599
 re:aZ iO rep.reason=true/\rep.reason.length+13<=2048
 mi:0<=rep.minor/\rep.minor<=1
 good:∀f∈rep.fields,fP f
 num:rep.fields.length<=64
 sum:aE rep.fields<=2000
 bare:gV rep.status=true->rep.body=[]
 body:rep.body.length<=262144
theorem zR{b:List UInt8}{rep:lu}{n:Nat}(h:ep b false=(rep,n,0))(hb:b.length<=2000):Mx rep:=by
 obtain⟨h1,h2,h3,h4⟩:=sj h;obtain⟨s1,s2,s3,s4,s5,s6⟩:=G_ h1;obtain⟨l1,l2⟩:=zF b;have hg:=mQ (aD b).lines;have hs:=xD (aD b).lines;rw[h2]at hg hs;refine⟨⟨s1,s2⟩,⟨s3,s4⟩,⟨s5,s6⟩,hg.1,hg.2.1,?_,Ff h,?_⟩
 ·simp only at hs;omega
 ·rw[<-h3];exact FD _ _ _ _ (by omega)
theorem Il{rep:lu}(h:Mx rep)(hn:rep.fields.length<=50)(age:List UInt8)(ha:∀c∈age,GR c=true)(N5:age.length<=30)(nm:Bool):(co (rh ⟨rep.status,rep.reason,rep.minor,aI rep.fields,rep.body⟩ age nm) false).2=0:=by
 have Nd:100<=(bif nm then(304:Int)else rep.status)/\(bif nm then(304:Int)else rep.status)<=599:=by
  cases nm
  ·exact h.st
  ·rw[cond_true];decide
 have PC:aZ iO (bif nm then IW else rep.reason)=true/\(bif nm then IW else rep.reason).length+13<=2048:=by
  cases nm
  ·exact h.re
  ·rw[cond_true];decide
 have O9:(gV (bif nm then(304:Int)else rep.status)&&!(bif nm then([]:List UInt8)else rep.body).isEmpty)=false:=by
  cases nm
  ·simp only[cond_false]
   cases hb:gV rep.status
   ·rfl
   ·rw[h.bare hb];rfl
  ·simp
 have Nx:(bif nm then([]:List UInt8)else rep.body).length<=262144:=by
  cases nm
  ·exact h.body
  ·exact a_ _
 obtain⟨p1,p2⟩:=FR Nd.1 Nd.2 PC.1 PC.2;unfold rh co;simp only
 generalize (bif nm then(304:Int)else rep.status)=st at*;generalize (bif nm then IW else rep.reason)=re at*;generalize (bif nm then([]:List UInt8)else rep.body)=bo at*;generalize ee st re 1=L at*;obtain⟨l1,l2⟩:=L;simp only at p1 p2
 subst p1;rw[show((0:Int)!=0)=false from rfl,cond_false,O9,cond_false,decide_eq_false (by omega),cond_false];have g1:∀f∈eo (aI rep.fields),fP f:=nG (nG (nG (nG h.good _) _) _) _
 have g2:(eo (aI rep.fields)).length<=50:=by have a1:=eU (dc (aI rep.fields)) [jb,fW,oj];have a2:=eU (aI rep.fields) (jf (aI rep.fields));have a3:=eU (dc rep.fields) [fW];have a4:=eU rep.fields (jf rep.fields);unfold eo;unfold aI dc at*;omega
 have g3:aE (eo (aI rep.fields))<=2000:=by have a1:=fK (dc (aI rep.fields)) [jb,fW,oj];have a2:=fK (aI rep.fields) (jf (aI rep.fields));have a3:=fK (dc rep.fields) [fW];have a4:=fK rep.fields (jf rep.fields);have a5:=h.sum;unfold eo;unfold aI dc at*;omega
 refine A6 (λf hf=>?_) ?_ ?_ ?_
 ·rcases eB.1 hf with h|h
  ·exact g1 f h
  ·rw[cA.1 h];exact oX (by decide) (rD ha) (by have:oT.length=3:=rfl;omega)
 ·rw[bP,dM];omega
 ·cases gV st
  ·rw[cond_false];omega
  ·rw[cond_true];decide
 ·rw[gj,bP,dM];have:aE [(oT,age)]=3+age.length:=by simp[aE,oT]
  simp only
  omega
theorem GV{xs:List aU}{dev:List UInt8}(hd:dev=[100])(h:(vj (af xs jb) dev).esi=false):(vj (af (aI xs) jb) dev).esi=false:=by
 have hz:(vj [] dev).esi=false:=by subst hd;decide
 unfold aI;rw[jZ]
 cases jF [fW] jb
 ·rw[cond_false];unfold dc;rw[jZ]
  cases jF (jf xs) jb
  ·rw[cond_false];exact h
  ·exact hz
 ·exact hz
theorem JT{start body:List UInt8}{xs:List aU}{len:Int}(h:(jP start xs len body).1≠[]):(jP start xs len body).2=0:=by
  revert h
  unfold jP;simp only
  cases(bR (dL xs [fW,je]++gU len)!=0)
  · simp only[cond_false]
    cases decide (8192<(start++(aK++(gQ (dL xs [fW,je]++gU len)++aK))).length)
    · intro _;rfl
    · intro h;exact absurd rfl h
  · intro h;exact absurd rfl h
theorem CU{r:oV}(h:(cm r).1≠[]):cm r=((cm r).1,0):=by
  have:(cm r).2=0:=by
    revert h
    unfold cm;simp only
    cases((cy r.method r.target r.minor).2 !=0)
    · simp only[cond_false]
      cases decide (65536<r.body.length)
      · simp only[cond_false];exact JT
      · intro h;exact absurd rfl h
    · intro h;exact absurd rfl h
  rw[<-this]
theorem yz(start body:List UInt8)(xs:List aU)(len:Int):(jP start xs len body).1.length<=8192+body.length:=by
  unfold jP;simp only
  cases(bR (dL xs [fW,je]++gU len)!=0)
  · simp only[cond_false]
    cases h:decide (8192<(start++(aK++(gQ (dL xs [fW,je]++gU len)++aK))).length)
    · simp only[cond_false]
      have:=of_decide_eq_false h;rw[bP];omega
    · simp
  · simp
theorem yR(r:oV):(cm r).1.length<=73728:=by
  unfold cm;simp only
  cases((cy r.method r.target r.minor).2 !=0)
  · simp only[cond_false]
    cases h:decide (65536<r.body.length)
    · simp only[cond_false]
      have:=of_decide_eq_false h;exact bj (yz _ _ _ _) (by omega)
    · simp
  · simp
theorem qD(r:lu):(co r false).1.length<=270336:=by
  unfold co;simp only
  cases((ee r.status r.reason r.minor).2 !=0)
  · simp only[cond_false]
    cases(gV r.status&&!r.body.isEmpty)
    · simp only[cond_false]
      cases h:decide (262144<r.body.length)
      · simp only[cond_false]
        have:=of_decide_eq_false h;exact bj (yz _ _ _ _) (by omega)
      · simp
    · simp
  · simp
def q_(tg:List UInt8)(xs:List aU):oV:=⟨mE,tg,1,dL (([72,111,115,116],[104])::xs) [fW,je],[]⟩
theorem Eo{tg:List UInt8}{xs:List aU}(h:(cm (wB tg xs)).1≠[]):rl (cm (wB tg xs)).1=(q_ tg xs,(cm (wB tg xs)).1.length,0):=zh (CU h) rfl (show mn.contains mE=false by decide)
theorem Ej(tg:List UInt8)(xs:List aU):∃r,af (q_ tg xs).fields tO=[104]::r:=by
  unfold q_ dL af;simp only
  rw[List.filter_cons_of_pos (by decide),List.filter_cons_of_pos (by decide)];exact⟨_,rfl⟩
theorem IE(tg:List UInt8)(xs:List aU)(hn:xs.length<=20)(hs:aE xs<=2000):(q_ tg xs).fields.length<=100/\aE (q_ tg xs).fields<=7000:=by
  have h1:=eU (([72,111,115,116],[104])::xs) [fW,je];have h2:=fK (([72,111,115,116],[104])::xs) [fW,je];unfold q_;simp only
  unfold aE at*;simp only[cg,bw,dG]at*;simp only[ic]at*;omega
theorem EP(home tg:List UInt8)(xs:List aU)(ht:tg.length<=300)(h:(fx home (q_ tg xs)).2=true):(fx home (q_ tg xs)).1.path.length+(fx home (q_ tg xs)).1.query.length<=400:=by
  obtain⟨r,hr⟩:=Ej tg xs;have Vx:(q_ tg xs).target=tg:=rfl
  revert h
  unfold fx;simp only
  rw[hr,Vx];simp only[List.isEmpty_cons,gN,cond_false]
  cases(tg.headD 0==47)
  · simp only[cond_false]
    intro h;have:=sL h;omega
  · simp only[cond_true]
    cases hc:(([104]::r).length !=1)
    · simp only[cond_false,List.headD_cons]
      intro h;have:=sL h;have h7:xU.length=7:=rfl;rw[bP,bP,h7]at this;simp only[cg,ic]at this;omega
    · simp
theorem Jw(n:Int):∀c∈(iI n).data.toList,GR c=true:=by
  have e:Lib.itoa ((le n).toNat:Int)=(iI n).data.toList:=by rw[tH];rfl
  rw[<-e];exact xq _
theorem Gj{b:ByteArray}{rep:lu}(Qf:ep b.data.toList false=(rep,b.size,0))(hb:b.size<=2000)(hn:rep.fields.length<=50)(now:Int)(nm:Bool):
    (co (rh ⟨rep.status,rep.reason,rep.minor,aI rep.fields,rep.body⟩ (iI (dz (aI rep.fields) now now now)).data.toList nm) false).2=0:=by
  have hf:=zR Qf (by rw[<-aY];exact hb);exact Il hf hn _ (Jw _) (bj (zE _) (by decide)) nm
theorem Dp{α:Type}{p:α × Int}(h:p.2=0):p=(p.1,0):=by rw[<-h]
theorem FX{C:B8}{q:oV}{b:ByteArray}{rep:lu}{now:Int}{k':bY}(Qf:ep b.data.toList false=(rep,b.size,0))(hb:b.size<=2000)(hn:rep.fields.length<=50)(Pq:rep.status≠304)(h:uv C q rep now k'):
    k'.resp.size<=1000000/\∃got:lu,ep k'.resp.data.toList false=(got,k'.resp.size,0) ∧
      ((k'.asked=.slice none 0 0/\got.status=400) ∨
       (∃aa ca,k'.asked=.slice aa 1 ca)/\((got.status=304/\rep.status=200/\got.body=[])\/(got.status≠304/\got.status=rep.status/\got.reason=rep.reason/\got.body=rep.body)))/\∃n used rd,k'.asked=.slice n used rd:=by
  unfold uv at h;rcases h with⟨_,h1,h2,_,_⟩|⟨_,h1,⟨aa,ca,h2⟩,_,_⟩
  · rw[h1,bq,aR]
    obtain⟨xs,hx,_,_⟩:=AQ (Dp wn);exact⟨bj (qD _) (by decide),_,hx,Or.inl ⟨h2,rfl⟩,_,_,_,h2⟩
  · rw[h1,bq,aR]
    have Ok:=Gj Qf hb hn now ((rep.status==200)&&jr q.fields (aI rep.fields) now);obtain⟨xs,hx,_,_⟩:=AQ (Dp Ok);refine⟨bj (qD _) (by decide),_,hx,Or.inr ⟨⟨aa,ca,h2⟩,?_⟩,_,_,_,h2⟩
    cases QM:((rep.status==200)&&jr q.fields (aI rep.fields) now)
    · exact Or.inr ⟨Pq,rfl,rfl,rfl⟩
    · rw[eA]at QM
      exact Or.inl ⟨rfl,by simpa using QM.1,rfl⟩
theorem MN:(Tryz.prog.info? 62).map (λi=>(i.zero,i.size,i.bytes))=some (some (.agg #[.string ByteArray.empty,.bool false]),2,24):=by kernel_rfl
def yL(b:ByteArray)(k:Bool):Nat->List Value
 |0=>[]
 |n+1=>yL b k n++[.string b,.bool k]
def pR(B:Nat)(v:Value)(b:ByteArray)(k:Bool)(n:Nat)(w:World):Prop:=w.ownsRow B 62 2 v n (yL b k n)
theorem Kb{ops:Array Oper}{rest:List Oper}{o:Oper}{a:Act}{Q:Exit->Act->World->Prop}(B:Nat)(b:ByteArray)(k:Bool){n:Nat}{w:World}{v:Value}(Nj:pR B v b k n w)(hB:B<=w.heap.size)(hn:n<=1000000000)(Ot:o.guard=none)(s x:Operand)(ho:o.op=.call { callee:=.builtin .append,args:=#[s,x],argTypes:=#[51,51] })(hs:a.eval s=v)(hx:a.eval x=.slice (some ⟨w.heap.size,0,none⟩) 1 1)(hK:∀v' w1,pR B v' b k (n+1) w1->Below B w w1->pD w w1 v v'->wpList Tryz.prog ops Q rest (a.put o.dst v') w1):wpList Tryz.prog ops Q (o::rest) a (w.alloc (.cells #[.string b,.bool k] 62)):=oQ (z:=.agg #[.string ByteArray.empty,.bool false]) (bytes:=24) (n:=n) Ot s x 51 62 ho Tryz.underlying51 MN rfl (by decide) (by decide) B [.string b,.bool k] rfl (by intro u hu;simp at hu;rcases hu with rfl|rfl<;>rfl) hs hx Nj hB hn hK
theorem pR.shape{n:Nat}{v:Value}{b:ByteArray}{k:Bool}(h:pR B v b k n w):∃a c,v=.slice a n c:=by
 rcases h.2 with⟨rfl,h0⟩|⟨g,cap,cur,rfl,_⟩
 ·exact⟨none,0,by rw[h0]⟩
 ·exact⟨_,_,rfl⟩
theorem pR.base{B' n:Nat}{v:Value}{b:ByteArray}{k:Bool}(h:pR B v b k n w)(hB:B'<=B):pR B' v b k n w:=by
 refine⟨h.1,?_⟩;rcases h.2 with h|⟨g,cp,cur,hv,hg,r⟩
 ·exact Or.inl h
 ·exact Or.inr ⟨g,cp,cur,hv,bj hB hg,r⟩
theorem vm(b:ByteArray)(k:Bool):∀n,(yL b k (n+1))[0]?=some (.string b)/\(yL b k (n+1))[1]?=some (.bool k)
 |0=>⟨rfl,rfl⟩
 |n+1=>by
  obtain⟨h1,h2⟩:=vm b k n;have hl:=(mj.1 h2).1;constructor
  ·rw[show yL b k (n+1+1)=yL b k (n+1)++[.string b,.bool k]from rfl,List.getElem?_append_left (by omega)];exact h1
  ·rw[show yL b k (n+1+1)=yL b k (n+1)++[.string b,.bool k]from rfl,List.getElem?_append_left hl];exact h2
theorem pR.head{n:Nat}{v:Value}{b:ByteArray}{k:Bool}(h:pR B v b k (n+1) w):∃O od oc,v=.slice (some ⟨O,0,none⟩) (n+1) od/\w.heap[O]?=some (.cells oc 62 (0,0))/\oc[0]?=some (.string b)/\oc[1]?=some (.bool k)/\B<=O:=by
 rcases h.2 with⟨_,h0⟩|⟨g,cap,cur,rfl,hg,hh,r⟩
 ·exact absurd h0 (Nat.succ_ne_zero n)
 ·have hr:=(Rd.of_own h).2.2 (Nat.succ_pos n);obtain⟨b',o',e,_,hc⟩:=hr;injection e with e
  injection e with e1 e2
  subst e1 e2;obtain⟨h1,h2⟩:=vm b k n;have g1:=hc 0 _ h1;have g2:=hc 1 _ h2;exact⟨g,cap,cur,rfl,hh,(ab hh 0).1.symm.trans g1,(ab hh 1).1.symm.trans g2,hg⟩
theorem yk(tg b:ByteArray)(A:Option Addr)(n c:Nat)(wt:Int)(f:Bool)(w:World):Calls Tryz.prog 14 #[.agg #[.string tg,.slice A n c,.int .u32 wt,.string b,.bool f]] w λe w'=>∃v,e=.returned v/\pR w.heap.size v b (!f) 70 w'/\Below w.heap.size w w':=by
 obtain⟨W0,Nb⟩:=bg w (.cells #[.string tg,.slice A n c,.int .u32 wt,.string b,.bool f] 38);have b0:=bm Nb;have x0:=dU Nb;have hz:w.heap.size<=W0.heap.size:=b0.size;obtain⟨Nl,X0,B0⟩:=bu Nb x0 b0;clear Nb x0 b0;go_enter Tryz.func14,Tryz.ntmps14
 go_upto_region 3 with(fail)
 rw[Nl.out];go_loopw [4,3] (λi l wr=>∃j:Nat,j<=70/\i=.int .i64 j/\Hid (pR W0.heap.size l b (!f) j wr)/\Below W0.heap.size W0 wr) (λi _ _=>70-(intOf i).toNat)
 case atStart=>exact⟨0,by decide,rfl,am ⟨rfl,Or.inl ⟨rfl,rfl⟩⟩,aO _ _⟩
 case round=>
  obtain⟨j,hj,rfl,HO,M_⟩:=hrel;by_cases Qd:j<70
  ·have x1:=(M_.block _ (ae X0.out)).trans X0.out;have c3:=aS x1 3;have c4:=aS x1 4;have j2:IntKind.i64.wrap ((j:Int)+1)=(j:Int)+1:=IntWalk.i64_in _ (by omega);have ND:=M_.size;have hjn:j<=1000000000:=by omega
   clear x1;go_wp2_with (at_builtin;refine Kb W0.heap.size b (!f) HO.out ND hjn rfl _ _ rfl rfl rfl ?_)
   intro v' w3 hO hb _;obtain⟨ga,gc,rfl⟩:=hO.shape;obtain⟨Ob,Og⟩:=az hO (M_.trans hb);clear hO hb;go_wp2_with fail
   go_roundw
   case rel=>exact⟨j+1,by omega,by simp,Ob,Og.out⟩
   case measure=>simp[intOf];omega
  ·obtain rfl:j=70:=by omega
   obtain⟨ga,gc,rfl⟩:=HO.out.shape;go_wp2_with fail
   go_ret;exact⟨_,rfl,pR.base HO.out hz,B0.out.trans (M_.mono hz)⟩
def rb(xs:List aU):Bool:=decide (xs.length<=20)&&decide (aE xs<=2000)
theorem Ib{xs:List aU}(h:rb xs=true):xs.length<=20/\aE xs<=2000:=by unfold rb at h;simpa using h
theorem Gg(A:Option Addr)(n c:Nat)(xs:List aU)(w:World)(hr:Rd A n 2 (aJ xs) w)(hn:n<=140737488355328)(hs:∀f∈xs,f.1.length<=140737488355328/\f.2.length<=140737488355328):Calls Tryz.prog 18 #[.slice A n c] w λe w'=>e=.returned (.bool (rb xs))/\Below w.heap.size w w':=by
 obtain rfl:=hr.fld;have hB:=aO w.heap.size w;by_cases h80:xs.length<=20
 ·have NB:∀k(h:k<xs.length),2000<aE (xs.take k)+(xs[k].1.length+xs[k].2.length)->rb xs=false:=by
   intro k h h1;have h2:=lw xs (k+1);rw[qe xs k h]at h2;unfold rb;rw[show decide (aE xs<=2000)=false from by simp;omega,jU]
  have NA:aE (xs.take xs.length)<=2000->rb xs=true:=by intro h;rw[eM]at h;unfold rb;simp;exact⟨h80,h⟩
  have Oj:=qe xs;have Tq:aE (xs.take 0)=0:=rfl;obtain⟨HR,HS,OC,HG,Su,TV⟩:=eN hr hs NB NA Oj Tq;clear hr hs NB NA Oj Tq;generalize rb xs=out at*;go_enter Tryz.func18,Tryz.ntmps18
  go_wp2;go_loopw [4,3] (λi x wr=>∃(k:Nat) (r:Int),k<=xs.length/\i=.int .i64 k/\x=.int .i64 r/\Hid (r=2000-(aE (xs.take k):Int))/\0<=r/\r<=2000/\Below w.heap.size w wr) (λi _ _=>xs.length-(intOf i).toNat)
  case atStart=>exact⟨0,2000,a_ _,rfl,rfl,am (by rw[TV.out];rfl),by omega,by omega,hB⟩
  case round=>
   clear hB TV;obtain⟨k,r,hk,rfl,rfl,HE,hr0,O0,M_⟩:=hrel;by_cases Nc:k<xs.length
   ·obtain⟨b,o,rfl,hl,c1,c2⟩:=HR.out.fld_at (k:=k) Nc;have hf:=HS.out xs[k] (bQ _);have QQ:=OC.out k Nc;have Oj:=Su.out k Nc;have he:=HE.out;generalize xs[k]=f at*;obtain⟨f1,f2⟩:=f;simp only at c1 c2 hf QQ Oj
    have TO:aE (xs.take (k+1))=aE (xs.take k)+(f1.length+f2.length):=Oj;clear Oj;obtain⟨s1,P8⟩:=aH (aE (xs.take (k+1)));rw[P8]at TO;have HS1:=ah P8;clear P8;generalize aE (xs.take k)=s0 at*;have d1:=(M_.cell (p:=⟨b,o+k*2,none⟩) hl).trans c1;have d2:=(M_.cell (p:=⟨b,o+k*2+1,none⟩) hl).trans c2;clear c1 c2 OC Su HG HE;have z1:(⟨f1.toArray⟩:ByteArray).size=f1.length:=by rw[aY]
    have z2:(⟨f2.toArray⟩:ByteArray).size=f2.length:=by rw[aY]
    obtain⟨XV,VU⟩:=hf;generalize f1.length=n1 at*;generalize f2.length=n2 at*;have hwid:(0:Int)<=n1/\(0:Int)<=n2:=by omega
    cases t1:decide ((n1:Int)>r)
    ·have q1:IntKind.i64.wrap (r-(n1:Int))=r-(n1:Int):=IntWalk.i64_in _ (by simp at t1;omega)
     cases t2:decide ((n2:Int)>r-(n1:Int))
     ·have q2:IntKind.i64.wrap (r-(n1:Int)-(n2:Int))=r-(n1:Int)-(n2:Int):=IntWalk.i64_in _ (by simp at t1 t2;omega);have NR:r-(n1:Int)-(n2:Int)=2000-(s1:Int):=by omega
      have YS:0<=r-(n1:Int)-(n2:Int):=by simp at t1 t2;omega
      obtain⟨O1,HG0⟩:=az NR YS;clear QQ he NR TO YS;go_wp2;go_quiet (fail)
      go_wp2;go_quiet (fail)
      go_wp2;go_roundw
      case rel=>exact⟨k+1,_,by omega,by go_num,rfl,by rw[HS1.out];exact O1,HG0.out,by omega,Go.below_drewN M_ _⟩
      case measure=>simp[intOf];omega
     ·have hx:=QQ (by simp at t1 t2;omega);have Hx:=ah hx;clear hx QQ he TO;go_wp2;go_quiet (fail)
      go_wp2;go_ret;rw[Hx.out];exact⟨rfl,Go.below_drewN M_ _⟩
    ·have hx:=QQ (by simp at t1;omega);have Hx:=ah hx;clear hx QQ he TO;go_wp2;go_quiet (fail)
     go_wp2;go_ret;rw[Hx.out];exact⟨rfl,Go.below_drewN M_ _⟩
   ·have NI:k=xs.length:=by omega
    subst NI;have hx:=HG.out (by have:=HE.out;omega);have Hx:=ah hx;clear hx HE;go_wp2;go_ret;rw[Hx.out];exact⟨rfl,M_⟩
 ·have hx:rb xs=false:=by unfold rb;rw[show decide (xs.length<=20)=false from by simpa using h80,gN]
  rw[hx];clear hx hs hr;go_enter Tryz.func18,Tryz.ntmps18
  go_wp2;go_ret;exact⟨rfl,hB⟩
def sF(t b:Nat)(xs:List aU):Bool:=decide (t<=300)&&decide (b<=2000)&&rb xs
theorem BN(L:Nat)(tg b:ByteArray)(A:Option Addr)(n c:Nat)(xs:List aU)(wt:Int)(f:Bool)(w:World)(hL:w.heap[L]?=some (.cells #[.string tg,.slice A n c,.int .u32 wt,.string b,.bool f] 38 (0,0)))(hr:Rd A n 2 (aJ xs) w)(hn:n<=140737488355328)(hs:∀f∈xs,f.1.length<=140737488355328/\f.2.length<=140737488355328)(hb:b.size<=140737488355328)(ht:tg.size<=140737488355328):Calls Tryz.prog 5 #[.slice (some ⟨L,0,none⟩) 1 1] w λe w'=>e=.returned (.bool (sF tg.size b.size xs))/\Below w.heap.size w w':=by
 have K1:=ah (λW(h:Below w.heap.size w W)=>Gg A n c xs W (hr.below h) hn hs);have HL:=ah hL;have Nc:=ae hL;obtain⟨sm,UL⟩:=aH (sF tg.size b.size xs);rw[UL];unfold sF at UL;have HSM0:=ah UL.symm;clear hL hr hs UL;go_enter Tryz.func5,Tryz.ntmps5
 go_upto_region 2 with(fail)
 go_loopw [3] (λi wr=>∃j:Nat,j<=1/\i=.int .i64 j/\Below w.heap.size w wr/\(j=1->sm=true)) (λi _=>1-(intOf i).toNat)
 case atStart=>exact⟨0,by decide,rfl,aO _ _,λh=>absurd h (by decide)⟩
 case round=>
  obtain⟨j,hj,rfl,M_,Yq⟩:=hrel;have Uk:j=0\/j=1:=by omega
  clear hj;rcases Uk with rfl|rfl
  ·clear Yq;have x1:=(M_.block _ Nc).trans HL.out;have c0:=aS x1 0;have c1:=aS x1 1;have c3:=aS x1 3;have UL:=HSM0.out;have k1:=K1.out wr M_;clear x1 K1 HSM0;generalize rb xs=fw at*;have Vv:=ah UL;clear UL;obtain⟨KK,Xs⟩:=az k1 M_;clear k1 M_
   cases t1:decide ((tg.size:Int)>300)
   ·cases t2:decide ((b.size:Int)>2000)
    ·have e1:decide (tg.size<=300)=true:=by simp at t1 ⊢;omega
     have e2:decide (b.size<=2000)=true:=by simp at t2 ⊢;omega
     rw[e1,e2,eJ,eJ]at Vv
     cases fw
     ·go_wp2_with (go_at_call 18;(with_reducible refine KK.out.mono ?_);rintro e w2 ⟨rfl,M9⟩)
      go_ret;exact⟨by rw[Vv.out];rfl,Xs.out.trans (M9.mono Xs.out.size)⟩
     ·go_wp2_with (go_at_call 18;(with_reducible refine KK.out.mono ?_);rintro e w2 ⟨rfl,M9⟩)
      go_roundw
      case rel=>exact⟨1,by decide,rfl,Xs.out.trans (M9.mono Xs.out.size),λ_=>Vv.out⟩
      case measure=>simp[intOf]
    ·have e2:decide (b.size<=2000)=false:=by simp at t2 ⊢;omega
     rw[e2,jU,gN]at Vv;go_wp2_with fail
     go_ret;exact⟨by rw[Vv.out];rfl,Xs.out⟩
   ·have e1:decide (tg.size<=300)=false:=by simp at t1 ⊢;omega
    rw[e1,gN,gN]at Vv;go_wp2_with fail
    go_ret;exact⟨by rw[Vv.out];rfl,Xs.out⟩
  ·have HY:=ah (Yq rfl);clear Yq;go_wp2_with fail
   go_ret;exact⟨by rw[HY.out];rfl,M_⟩
end Go.Proofs.YtdbjnlkbhhebbaaGreatDoor
