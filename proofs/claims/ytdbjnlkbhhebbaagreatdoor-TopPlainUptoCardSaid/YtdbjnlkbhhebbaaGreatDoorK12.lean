/- FreshLife, Obt4, EtagA, EtagP, EtagB, EtagSpec, EtagList, EtagNot, Sur4, Sur5, Sur6, Obt5, StorSpec, Stor1, Stor2. -/
import Derived.Test.YtdbjnlkbhhebbaaGreatDoorK01
import Derived.Test.YtdbjnlkbhhebbaaGreatDoorK02
import Derived.Test.YtdbjnlkbhhebbaaGreatDoorK06
import Derived.Test.YtdbjnlkbhhebbaaGreatDoorK08
import Derived.Test.YtdbjnlkbhhebbaaGreatDoorK09
import Derived.Test.YtdbjnlkbhhebbaaGreatDoorK10
import Derived.Test.YtdbjnlkbhhebbaaGreatDoorK11
import Derived.WalkMore
import Derived.Deep.OwnRows
import Derived.Laws.EntriesVeiled
import Derived.StillTailTactics
import Derived.Deep.RegionHeld3
set_option maxRecDepth 100000
set_option maxHeartbeats 16000000
set_option linter.all false
namespace Go.Proofs.YtdbjnlkbhhebbaaGreatDoor
open Go.RowKit
theorem yi(st mi asked got:Int)(re bo:ByteArray)(A V:Option Addr)(n c m d:Nat)(xs:List aU)(dev:ByteArray)(w:World)(hE:d9 w)(hr:Rd A n 2 (aJ xs) w)(hn:n<=1000)(hs:aE xs<=800000)(hg:-9223372036854775808<=got/\got<=9223372036854775807):Calls Tryz.prog 92 #[dI st re mi A n c bo asked got V m d,.string dev] w λe w'=>e=.returned (.int .i64 (zX xs got dev.data.toList))/\Below w.heap.size w w':=by
 obtain⟨W1,Ne⟩:=bg w (.cells #[.int .i64 st,.string re,.int .i64 mi,.slice A n c,.string bo,.int .i64 asked,.int .i64 got,.slice V m d] 105);have b1:=bm Ne;have x1:ms w.heap.size st re mi A n c bo asked got V m d W1:=by rw[<-Ne];exact ay w _ _ rfl
 have f0:=λW(hb:Below w.heap.size w W)=>uk st mi asked got re bo A V n c m d xs dev W (hE.below hb).1 (hr.below hb) hn hs
 have f4:=λW(hb:Below w.heap.size w W)=>Ai st mi asked got re bo A V n c m d xs dev W (hE.below hb) (hr.below hb) hn hs hg
 have f1:=λN B W(hb:Below w.heap.size w W)hN hB XF Uo=>rR N B [110,111,45,99,97,99,104,101] true st mi asked got re bo A V n c m d xs dev W (hE.below hb).1 (hr.below hb) hn hs (by decide) hN hB XF Uo
 have f2:=λN B W(hb:Below w.heap.size w W)hN hB XF Uo=>rR N B [115,45,109,97,120,97,103,101] false st mi asked got re bo A V n c m d xs dev W (hE.below hb).1 (hr.below hb) hn hs (by decide) hN hB XF Uo
 have f3:=λN B W(hb:Below w.heap.size w W)hN hB XF Uo=>rR N B [109,97,120,45,97,103,101] false st mi asked got re bo A V n c m d xs dev W (hE.below hb).1 (hr.below hb) hn hs (by decide) hN hB XF Uo
 have hlf:zX xs got dev.data.toList=nQ [EH xs dev.data.toList,mC true oK xs,mC false oZ xs,mC false ia xs,Fy xs got]:=rfl;rw[show([110,111,45,99,97,99,104,101]:List UInt8)=oK from rfl]at f1;rw[show([115,45,109,97,120,97,103,101]:List UInt8)=oZ from rfl]at f2;rw[show([109,97,120,45,97,103,101]:List UInt8)=ia from rfl]at f3;rw[hlf];clear hlf;generalize EH xs dev.data.toList=r0 at*;generalize mC true oK xs=r1 at*;generalize mC false oZ xs=r2 at*;generalize mC false ia xs=r3 at*;generalize Fy xs got=r4 at*;obtain⟨n0,i0⟩:=r0;obtain⟨n1,i1⟩:=r1;obtain⟨n2,i2⟩:=r2;obtain⟨n3,i3⟩:=r3;obtain⟨n4,i4⟩:=r4;simp only at f0 f1 f2 f3 f4
 obtain⟨F0,F1,F2,F3,F4⟩:=gB f0 f1 f2 f3 f4;obtain⟨X1,NC,B1⟩:=bu x1 Ne b1;obtain⟨L,hL⟩:=aH (nQ [(n0,i0),(n1,i1),(n2,i2),(n3,i3),(n4,i4)]);rw[hL];have HL:=ah hL;clear hL Ne f0 f1 f2 f3 f4 x1 hr hs hE b1 hg;unfold dI at F0 F1 F2 F3 F4 ⊢;go_enter Tryz.func92,Tryz.ntmps92
 go_wp2_with fail
 go_step3
 go_wp2_with fail
 go_step3
 go_wp2_with fail
 rw[NC.out];refine(pZ _ _ _).mono ?_;rintro e y1 ⟨rfl,p1,q1,z1,M8⟩;obtain⟨P1,Q1,QX,Z1⟩:=bK p1 q1 M8 z1;clear p1 q1 M8 z1;go_wp2_with fail
 refine(pZ _ _ _).mono ?_;rintro e y2 ⟨rfl,p2,q2,z2,M9⟩;obtain⟨P2,Q2,OT,Z2⟩:=bK p2 q2 M9 z2;clear p2 q2 M9 z2;go_wp2_with fail
 refine(pZ _ _ _).mono ?_;rintro e y3 ⟨rfl,p3,q3,z3,Na⟩;obtain⟨P3,Q3,Og,Z3⟩:=bK p3 q3 Na z3;clear p3 q3 Na z3;go_wp2_with fail
 obtain⟨W5,OH⟩:=bg y3 (.cells #[.func (.func 151) #[] #[],.func (.func 209) #[] #[.pointer (some ⟨W1.heap.size,0,none⟩),.pointer (some ⟨W1.heap.size+1,0,none⟩)],.func (.func 209) #[] #[.pointer (some ⟨y1.heap.size,0,none⟩),.pointer (some ⟨y1.heap.size+1,0,none⟩)],.func (.func 209) #[] #[.pointer (some ⟨y2.heap.size,0,none⟩),.pointer (some ⟨y2.heap.size+1,0,none⟩)],.func (.func 153) #[] #[]] 245);have b5:=bm OH;have a5:=dU OH;rw[OH];have Oh:Below w.heap.size w W5:=bt (bt (bt (bt B1.out QX.out) OT.out) Og.out) b5;have X5:=ah ((((X1.out.below QX.out).below OT.out).below Og.out).below b5);have s1:=QX.out.size;have s2:=OT.out.size;have s3:=Og.out.size;have s5:=b5.size;have zz1:=Z1.out;have zz2:=Z2.out;have zz3:=Z3.out
 have Y8:=ah ((b5.cell (p:=⟨W1.heap.size,0,none⟩) (by show W1.heap.size<_;omega)).trans ((Og.out.cell (p:=⟨W1.heap.size,0,none⟩) (by show W1.heap.size<_;omega)).trans ((OT.out.cell (p:=⟨W1.heap.size,0,none⟩) (by show W1.heap.size<_;omega)).trans P1.out)));have XT:=ah ((b5.cell (p:=⟨W1.heap.size+1,0,none⟩) (by show W1.heap.size+1<_;omega)).trans ((Og.out.cell (p:=⟨W1.heap.size+1,0,none⟩) (by show W1.heap.size+1<_;omega)).trans ((OT.out.cell (p:=⟨W1.heap.size+1,0,none⟩) (by show W1.heap.size+1<_;omega)).trans Q1.out)));have Zc:=ah ((b5.cell (p:=⟨y1.heap.size,0,none⟩) (by show y1.heap.size<_;omega)).trans ((Og.out.cell (p:=⟨y1.heap.size,0,none⟩) (by show y1.heap.size<_;omega)).trans P2.out))
 have XZ:=ah ((b5.cell (p:=⟨y1.heap.size+1,0,none⟩) (by show y1.heap.size+1<_;omega)).trans ((Og.out.cell (p:=⟨y1.heap.size+1,0,none⟩) (by show y1.heap.size+1<_;omega)).trans Q2.out));have Zs:=ah ((b5.cell (p:=⟨y2.heap.size,0,none⟩) (by show y2.heap.size<_;omega)).trans P3.out);have Zq:=ah ((b5.cell (p:=⟨y2.heap.size+1,0,none⟩) (by show y2.heap.size+1<_;omega)).trans Q3.out);have m1:W1.heap.size<W5.heap.size:=by omega
 have Wo:W1.heap.size+1<W5.heap.size:=by omega
 have m2:y1.heap.size<W5.heap.size:=by omega
 have VK:y1.heap.size+1<W5.heap.size:=by omega
 have m3:y2.heap.size<W5.heap.size:=by omega
 have VW:y2.heap.size+1<W5.heap.size:=by omega
 generalize y3.heap.size=R at*;generalize y2.heap.size=p3 at*;generalize y1.heap.size=p2 at*;generalize W1.heap.size=p1 at*;obtain⟨Pi,A5⟩:=az Oh a5;have SI:=(ab a5 0).2.2;clear Oh a5 OH b5 s1 s2 s3 s5 zz1 zz2 zz3 P1 P2 P3 Q1 Q2 Q3 Z1 Z2 Z3 QX OT Og X1 B1 NC;go_wp2_with fail
 go_loopw [17,5] (λi lf wr=>∃j:Nat,j<=5/\i=.int .i64 j/\lf=.int .i64 0/\Hid (nQ ([(n0,i0),(n1,i1),(n2,i2),(n3,i3),(n4,i4)].drop j)=L)/\Below W5.heap.size W5 wr) (λi _ _=>5-(intOf i).toNat)
 case atStart=>exact⟨0,by omega,rfl,rfl,HL,aO _ _⟩
 case round=>
  clear HL;obtain⟨j,hj,rfl,rfl,HL,M_⟩:=hrel;rcases(by omega:j=0\/j=1\/j=2\/j=3\/j=4\/j=5)with rfl|rfl|rfl|rfl|rfl|rfl
  ·have r0:=(M_.cell (p:=⟨R,0,none⟩) SI).trans (ab A5.out 0).1;simp only[cT,cS]at r0;obtain⟨W6,N0⟩:=bg wr (.cells #[.func (.func 151) #[] #[]] 245);have b6:=bm N0;have v1:W6.cell? ⟨wr.heap.size,0,none⟩=some (.func (.func 151) #[] #[]):=by rw[<-N0];exact cK wr _ _ _ 0
   have Ow:Below w.heap.size w W6:=bt (bt Pi.out M_) b6;have k6:=F0.out W6 Ow;obtain⟨c0,c1,c2,c3,c4,c5,c6,c7,cl⟩:=((X5.out.below M_).below b6).cells;have Px:=M_.trans (b6.mono M_.size);obtain⟨K6,PR,Qu,PA⟩:=bK k6 N0 Ow Px;clear k6 N0 Ow b6 Px F0 F1 F2 F3 F4 Y8 Zc Zs XT XZ Zq m1 Wo m2 VK m3 VW A5 X5
   cases i0
   ·have Nq:nQ [(n1,i1),(n2,i2),(n3,i3),(n4,i4)]=L:=HL.out;have Oo:=ah Nq;clear Nq HL;go_upto_region 5 with(fail)
    rw[PR.out];go_wp2_with fail
    refine K6.out.mono ?_;rintro e w7 ⟨rfl,NG⟩;have OE:=PA.out.trans (NG.mono PA.out.size);clear NG;go_wp2;go_roundw
    case rel=>exact⟨1,by omega,by rfl,rfl,Oo,OE⟩
    case measure=>simp[intOf]
   ·have Nq:n0=L:=HL.out;have Oo:=ah Nq;clear Nq HL;go_upto_region 5 with(fail)
    rw[PR.out];go_wp2_with fail
    refine K6.out.mono ?_;rintro e w7 ⟨rfl,NG⟩;have OE:=bt Qu.out NG;clear NG;go_wp2;rw[Exit.noGoto_ret];go_ret;exact⟨eV Oo.out,OE⟩
  ·have r0:=(M_.cell (p:=⟨R,1,none⟩) SI).trans (ab A5.out 1).1;simp only[cT,cv,cS]at r0;obtain⟨W6,N0⟩:=bg wr (.cells #[.func (.func 209) #[] #[.pointer (some ⟨p1,0,none⟩),.pointer (some ⟨p1+1,0,none⟩)]] 245);have b6:=bm N0;have v1:W6.cell? ⟨wr.heap.size,0,none⟩=some (.func (.func 209) #[] #[.pointer (some ⟨p1,0,none⟩),.pointer (some ⟨p1+1,0,none⟩)]):=by rw[<-N0];exact cK wr _ _ _ 0
   have Ow:Below w.heap.size w W6:=bt (bt Pi.out M_) b6;have k6:=F1.out p1 (p1+1) W6 Ow ((b6.cell (p:=⟨p1,0,none⟩) (bE m1 M_.size)).trans ((M_.cell (p:=⟨p1,0,none⟩) m1).trans Y8.out)) ((b6.cell (p:=⟨p1+1,0,none⟩) (bE Wo M_.size)).trans ((M_.cell (p:=⟨p1+1,0,none⟩) Wo).trans XT.out)) (bE (bE m1 M_.size) b6.size) (bE (bE Wo M_.size) b6.size);obtain⟨c0,c1,c2,c3,c4,c5,c6,c7,cl⟩:=((X5.out.below M_).below b6).cells;have Px:=M_.trans (b6.mono M_.size);obtain⟨K6,PR,Qu,PA⟩:=bK k6 N0 Ow Px;clear k6 N0 Ow b6 Px F0 F1 F2 F3 F4 Y8 Zc Zs XT XZ Zq m1 Wo m2 VK m3 VW A5 X5
   cases i1
   ·have Nq:nQ [(n2,i2),(n3,i3),(n4,i4)]=L:=HL.out;have Oo:=ah Nq;clear Nq HL;go_upto_region 5 with(fail)
    rw[PR.out];go_wp2_with fail
    refine K6.out.mono ?_;rintro e w7 ⟨rfl,NG⟩;have OE:=PA.out.trans (NG.mono PA.out.size);clear NG;go_wp2;go_roundw
    case rel=>exact⟨2,by omega,by rfl,rfl,Oo,OE⟩
    case measure=>simp[intOf]
   ·have Nq:n1=L:=HL.out;have Oo:=ah Nq;clear Nq HL;go_upto_region 5 with(fail)
    rw[PR.out];go_wp2_with fail
    refine K6.out.mono ?_;rintro e w7 ⟨rfl,NG⟩;have OE:=bt Qu.out NG;clear NG;go_wp2;rw[Exit.noGoto_ret];go_ret;exact⟨eV Oo.out,OE⟩
  ·have r0:=(M_.cell (p:=⟨R,2,none⟩) SI).trans (ab A5.out 2).1;simp only[cT,cv,cS]at r0;obtain⟨W6,N0⟩:=bg wr (.cells #[.func (.func 209) #[] #[.pointer (some ⟨p2,0,none⟩),.pointer (some ⟨p2+1,0,none⟩)]] 245);have b6:=bm N0;have v1:W6.cell? ⟨wr.heap.size,0,none⟩=some (.func (.func 209) #[] #[.pointer (some ⟨p2,0,none⟩),.pointer (some ⟨p2+1,0,none⟩)]):=by rw[<-N0];exact cK wr _ _ _ 0
   have Ow:Below w.heap.size w W6:=bt (bt Pi.out M_) b6;have k6:=F2.out p2 (p2+1) W6 Ow ((b6.cell (p:=⟨p2,0,none⟩) (bE m2 M_.size)).trans ((M_.cell (p:=⟨p2,0,none⟩) m2).trans Zc.out)) ((b6.cell (p:=⟨p2+1,0,none⟩) (bE VK M_.size)).trans ((M_.cell (p:=⟨p2+1,0,none⟩) VK).trans XZ.out)) (bE (bE m2 M_.size) b6.size) (bE (bE VK M_.size) b6.size);obtain⟨c0,c1,c2,c3,c4,c5,c6,c7,cl⟩:=((X5.out.below M_).below b6).cells;have Px:=M_.trans (b6.mono M_.size);obtain⟨K6,PR,Qu,PA⟩:=bK k6 N0 Ow Px;clear k6 N0 Ow b6 Px F0 F1 F2 F3 F4 Y8 Zc Zs XT XZ Zq m1 Wo m2 VK m3 VW A5 X5
   cases i2
   ·have Nq:nQ [(n3,i3),(n4,i4)]=L:=HL.out;have Oo:=ah Nq;clear Nq HL;go_upto_region 5 with(fail)
    rw[PR.out];go_wp2_with fail
    refine K6.out.mono ?_;rintro e w7 ⟨rfl,NG⟩;have OE:=PA.out.trans (NG.mono PA.out.size);clear NG;go_wp2;go_roundw
    case rel=>exact⟨3,by omega,by rfl,rfl,Oo,OE⟩
    case measure=>simp[intOf]
   ·have Nq:n2=L:=HL.out;have Oo:=ah Nq;clear Nq HL;go_upto_region 5 with(fail)
    rw[PR.out];go_wp2_with fail
    refine K6.out.mono ?_;rintro e w7 ⟨rfl,NG⟩;have OE:=bt Qu.out NG;clear NG;go_wp2;rw[Exit.noGoto_ret];go_ret;exact⟨eV Oo.out,OE⟩
  ·have r0:=(M_.cell (p:=⟨R,3,none⟩) SI).trans (ab A5.out 3).1;simp only[cT,cv,cS]at r0;obtain⟨W6,N0⟩:=bg wr (.cells #[.func (.func 209) #[] #[.pointer (some ⟨p3,0,none⟩),.pointer (some ⟨p3+1,0,none⟩)]] 245);have b6:=bm N0;have v1:W6.cell? ⟨wr.heap.size,0,none⟩=some (.func (.func 209) #[] #[.pointer (some ⟨p3,0,none⟩),.pointer (some ⟨p3+1,0,none⟩)]):=by rw[<-N0];exact cK wr _ _ _ 0
   have Ow:Below w.heap.size w W6:=bt (bt Pi.out M_) b6;have k6:=F3.out p3 (p3+1) W6 Ow ((b6.cell (p:=⟨p3,0,none⟩) (bE m3 M_.size)).trans ((M_.cell (p:=⟨p3,0,none⟩) m3).trans Zs.out)) ((b6.cell (p:=⟨p3+1,0,none⟩) (bE VW M_.size)).trans ((M_.cell (p:=⟨p3+1,0,none⟩) VW).trans Zq.out)) (bE (bE m3 M_.size) b6.size) (bE (bE VW M_.size) b6.size);obtain⟨c0,c1,c2,c3,c4,c5,c6,c7,cl⟩:=((X5.out.below M_).below b6).cells;have Px:=M_.trans (b6.mono M_.size);obtain⟨K6,PR,Qu,PA⟩:=bK k6 N0 Ow Px;clear k6 N0 Ow b6 Px F0 F1 F2 F3 F4 Y8 Zc Zs XT XZ Zq m1 Wo m2 VK m3 VW A5 X5
   cases i3
   ·have Nq:nQ [(n4,i4)]=L:=HL.out;have Oo:=ah Nq;clear Nq HL;go_upto_region 5 with(fail)
    rw[PR.out];go_wp2_with fail
    refine K6.out.mono ?_;rintro e w7 ⟨rfl,NG⟩;have OE:=PA.out.trans (NG.mono PA.out.size);clear NG;go_wp2;go_roundw
    case rel=>exact⟨4,by omega,by rfl,rfl,Oo,OE⟩
    case measure=>simp[intOf]
   ·have Nq:n3=L:=HL.out;have Oo:=ah Nq;clear Nq HL;go_upto_region 5 with(fail)
    rw[PR.out];go_wp2_with fail
    refine K6.out.mono ?_;rintro e w7 ⟨rfl,NG⟩;have OE:=bt Qu.out NG;clear NG;go_wp2;rw[Exit.noGoto_ret];go_ret;exact⟨eV Oo.out,OE⟩
  ·have r0:=(M_.cell (p:=⟨R,4,none⟩) SI).trans (ab A5.out 4).1;simp only[cT,cv,cS]at r0;obtain⟨W6,N0⟩:=bg wr (.cells #[.func (.func 153) #[] #[]] 245);have b6:=bm N0;have v1:W6.cell? ⟨wr.heap.size,0,none⟩=some (.func (.func 153) #[] #[]):=by rw[<-N0];exact cK wr _ _ _ 0
   have Ow:Below w.heap.size w W6:=bt (bt Pi.out M_) b6;have k6:=F4.out W6 Ow;obtain⟨c0,c1,c2,c3,c4,c5,c6,c7,cl⟩:=((X5.out.below M_).below b6).cells;have Px:=M_.trans (b6.mono M_.size);obtain⟨K6,PR,Qu,PA⟩:=bK k6 N0 Ow Px;clear k6 N0 Ow b6 Px F0 F1 F2 F3 F4 Y8 Zc Zs XT XZ Zq m1 Wo m2 VK m3 VW A5 X5
   cases i4
   ·have Nq:nQ []=L:=HL.out;have Oo:=ah Nq;clear Nq HL;go_upto_region 5 with(fail)
    rw[PR.out];go_wp2_with fail
    refine K6.out.mono ?_;rintro e w7 ⟨rfl,NG⟩;have OE:=PA.out.trans (NG.mono PA.out.size);clear NG;go_wp2;go_roundw
    case rel=>exact⟨5,by omega,by rfl,rfl,Oo,OE⟩
    case measure=>simp[intOf]
   ·have Nq:n4=L:=HL.out;have Oo:=ah Nq;clear Nq HL;go_upto_region 5 with(fail)
    rw[PR.out];go_wp2_with fail
    refine K6.out.mono ?_;rintro e w7 ⟨rfl,NG⟩;have OE:=bt Qu.out NG;clear NG;go_wp2;rw[Exit.noGoto_ret];go_ret;exact⟨eV Oo.out,OE⟩
  ·have Nq:(0:Int)=L:=HL.out;subst Nq;clear HL F0 F1 F2 F3 F4 Y8 Zc Zs XT XZ Zq m1 Wo m2 VK m3 VW A5 X5;go_wp2;rw[Exit.noGoto_ret];go_ret;exact⟨rfl,bt Pi.out M_⟩
def cW(v0 v1 v2 v3 v4 v5 v6 v7 v8 v9:Value):Array Value:=#[v0,v1,v2,v3,v4,v5,v6,v7,v8,v9]
theorem LY(v0 v1 v2 v3 v4 v5 v6 v7 v8 v9 x:Value):(cW v0 v1 v2 v3 v4 v5 v6 v7 v8 v9).setIfInBounds 3 x=cW v0 v1 v2 x v4 v5 v6 v7 v8 v9:=by unfold cW;simp only[cH,cI,cF]
theorem L0(v0 v1 v2 v3 v4 v5 v6 v7 v8 v9 x:Value):(cW v0 v1 v2 v3 v4 v5 v6 v7 v8 v9).setIfInBounds 6 x=cW v0 v1 v2 v3 v4 v5 x v7 v8 v9:=by unfold cW;simp only[cH,cI,cF]
theorem LJ(v0 v1 v2 v3 v4 v5 v6 v7 v8 v9 x:Value):(cW v0 v1 v2 v3 v4 v5 v6 v7 v8 v9).setIfInBounds 7 x=cW v0 v1 v2 v3 v4 v5 v6 x v8 v9:=by unfold cW;simp only[cH,cI,cF]
theorem Gu(v0 v1 v2 v3 v4 v5 v6 v7 v8 v9 x:Value):(cW v0 v1 v2 v3 v4 v5 v6 v7 v8 v9).setIfInBounds 8 x=cW v0 v1 v2 v3 v4 v5 v6 v7 x v9:=by unfold cW;simp only[cH,cI,cF]
theorem LQ(v0 v1 v2 v3 v4 v5 v6 v7 v8 v9 x:Value):(cW v0 v1 v2 v3 v4 v5 v6 v7 v8 v9).setIfInBounds 9 x=cW v0 v1 v2 v3 v4 v5 v6 v7 v8 x:=by unfold cW;simp only[cH,cI,cF]
def AN(w:World)(b:Nat)(tk:Array Value)(av:Array Value)(W:World):Prop:=W.heap[b]?=some (.cells tk 327 (0,0))/\b<w.heap.size/\W.heap[w.heap.size]?=some (.cells (cW (.int .i64 0) (.string ⟨#[]⟩) (.int .i64 0) (.slice none 0 0) (.string ⟨#[]⟩) (.int .i64 0) (.int .i64 0) (.int .i64 0) (.bool false) (.slice none 0 0)) 207 (0,0))/\W.heap[w.heap.size+1]?=some (.cells av 207 (0,0))/\Below w.heap.size w W
section
variable {w W W':World}{b:Nat}{tk av:Array Value}
theorem AN.below(h:AN w b tk av W)(hb:Below W.heap.size W W'):AN w b tk av W':=⟨(hb.block _ (ae h.1)).trans h.1,h.2.1,(hb.block _ (ae h.2.2.1)).trans h.2.2.1,(hb.block _ (ae h.2.2.2.1)).trans h.2.2.2.1,bt h.2.2.2.2 hb⟩
theorem AN.near{B:Nat}(h:AN w b tk av W)(hb:Below B W W')(hB:w.heap.size+2<=B):AN w b tk av W':=⟨(hb.block _ (by have:=h.2.1;omega)).trans h.1,h.2.1,(hb.block _ (by omega)).trans h.2.2.1,(hb.block _ (by omega)).trans h.2.2.2.1,h.2.2.2.2.trans (hb.mono (by omega))⟩
theorem AN.drew(h:AN w b tk av W):AN w b tk av W.drew:=h.below (aO _ _).drew
theorem AN.set(h:AN w b tk av W)(j:Nat)(v:Value):AN w b tk (av.setIfInBounds j v) (W.setCell ⟨w.heap.size+1,j,none⟩ v):=⟨(aG _ _ _ _ _ (by have:=h.2.1;omega)).trans h.1,h.2.1,(aG _ _ _ _ _ (by omega)).trans h.2.2.1,aj h.2.2.2.1,h.2.2.2.2.setCell (by show _<=w.heap.size+1;omega) _⟩
theorem AN.at(h:AN w b tk av W)(j:Nat):W.cell? ⟨w.heap.size+1,j,none⟩=av[j]?/\W.frozen? ⟨w.heap.size+1,j,none⟩=false:=⟨(ab h.2.2.2.1 j).1,(ab h.2.2.2.1 j).2.1⟩
theorem AN.tkc(h:AN w b tk av W)(j:Nat):W.cell? ⟨b,j,none⟩=tk[j]?:=(ab h.1 j).1
end
def L4(k:ue):Array Value:=#[.bool k.noStore,.bool k.noRemote,.bool k.esi,.bool k.hasAge,.int .i64 k.age,.int .i64 k.extra]
def Cs:Array Value:=#[.bool false,.bool false,.bool false,.bool false,.int .i64 0,.int .i64 0]
theorem MR{w:World}{K:Nat}{T:TypeId}(k:ue)(h:w.heap[K]?=some (.cells Cs T (0,0))):
    ((((((w.setCell ⟨K,0,none⟩ (.bool k.noStore)).setCell ⟨K,1,none⟩ (.bool k.noRemote)).setCell ⟨K,2,none⟩ (.bool k.esi)).setCell ⟨K,3,none⟩ (.bool k.hasAge)).setCell ⟨K,4,none⟩ (.int .i64 k.age)).setCell ⟨K,5,none⟩ (.int .i64 k.extra)).heap[K]?=some (.cells (L4 k) T (0,0)):=by
  have h5:=aj (j:=5) (v:=.int .i64 k.extra) (aj (j:=4) (v:=.int .i64 k.age) (aj (j:=3) (v:=.bool k.hasAge) (aj (j:=2) (v:=.bool k.esi) (aj (j:=1) (v:=.bool k.noRemote) (aj (j:=0) (v:=.bool k.noStore) h)))));unfold Cs at h5;unfold L4;simp only[cH,cI,cF]at h5;exact h5
theorem L7{B:Nat}{w:World}{K:Nat}(h:B<=K)(v0 v1 v2 v3 v4 v5:Value):Below B w ((((((w.setCell ⟨K,0,none⟩ v0).setCell ⟨K,1,none⟩ v1).setCell ⟨K,2,none⟩ v2).setCell ⟨K,3,none⟩ v3).setCell ⟨K,4,none⟩ v4).setCell ⟨K,5,none⟩ v5):=dX (aO _ _) h _ _ _ _ _ _
theorem AN.hi{w W:World}{b:Nat}{tk av:Array Value}(h:AN w b tk av W):w.heap.size+2<=W.heap.size/\b<W.heap.size:=⟨ae h.2.2.2.1,ae h.1⟩
theorem J0{B K:Nat}{v:Value}{fs:List aU}{w w':World}(h:aM B v fs w)(hK:∀g,w.heap[g]?≠none->g≠K->w'.heap[g]?=w.heap[g]?)(hT:∀cs z,w.heap[K]?≠some (.cells cs 70 z)):aM B v fs w':=by
  refine⟨h.1,?_⟩;rcases h.2 with h2|⟨g,cap,cur,hv,hg,hh,r⟩
  · exact Or.inl h2
  · refine Or.inr ⟨g,cap,cur,hv,hg,?_,r⟩
    have Ng:g≠K:=λe=>hT _ _ (by rw[<-e];exact hh)
    rw[hK g (by rw[hh];simp) Ng];exact hh
theorem MG{B K:Nat}{v:Value}{fs:List aU}{w:World}{T:TypeId}{cs:Array Value}{z:Nat × Nat}(h:aM B v fs w)(hK:w.heap[K]?=some (.cells cs T z))(hT:T≠70)(v0 v1 v2 v3 v4 v5:Value):aM B v fs ((((((w.setCell ⟨K,0,none⟩ v0).setCell ⟨K,1,none⟩ v1).setCell ⟨K,2,none⟩ v2).setCell ⟨K,3,none⟩ v3).setCell ⟨K,4,none⟩ v4).setCell ⟨K,5,none⟩ v5):=
  J0 h (fun g _ Ng=>zM Ng _ _ _ _ _ _) (fun cs' z' e=>by
    rw[hK]at e;injection e with e
    injection e with _ e _
    exact hT e)
theorem aV(w:World)(o:Obj):Below w.heap.size w (w.alloc o):=(aO _ _).alloc (aw _) _
theorem t_{w:World}{K:Nat}(h:w.heap[K]?=some (.cells #[.bool false,.bool false,.bool false,.bool false,.int .i64 0,.int .i64 0] 45 (0,0))):(w.cell? ⟨K,0,none⟩=some (.bool false)/\w.cell? ⟨K,1,none⟩=some (.bool false)/\w.cell? ⟨K,2,none⟩=some (.bool false)/\w.cell? ⟨K,3,none⟩=some (.bool false)/\w.cell? ⟨K,4,none⟩=some (.int .i64 0)/\w.cell? ⟨K,5,none⟩=some (.int .i64 0)) ∧ w.frozen? ⟨K,0,none⟩=false/\w.frozen? ⟨K,1,none⟩=false/\w.frozen? ⟨K,2,none⟩=false/\w.frozen? ⟨K,3,none⟩=false/\w.frozen? ⟨K,4,none⟩=false/\w.frozen? ⟨K,5,none⟩=false:=⟨⟨(ab h 0).1,(ab h 1).1,(ab h 2).1,(ab h 3).1,(ab h 4).1,(ab h 5).1⟩,(ab h 0).2.1,(ab h 1).2.1,(ab h 2).2.1,(ab h 3).2.1,(ab h 4).2.1,(ab h 5).2.1⟩
theorem Cd(b:Nat)(ky bs dev:ByteArray)(rq r0 r1 r2 r3 r4:Value)(right:Bool)(A V:Option Addr)(n c vn vc:Nat)(xs:List aU)(now st mi asked got f:Int)(re bo:ByteArray)(kept:Bool)(w:World)(hE:d9 w)
    (hb:w.heap[b]?=some (.cells (ud (.int .i64 st) (.string re) (.int .i64 mi) (.slice A xs.length c) (.string bo) (.int .i64 asked) (.int .i64 got) (.slice V vn vc) ky bs false dev rq now r0 r1 r2 r3 r4 right) 327 (0,0)))
    (hr:Rd A xs.length 2 (aJ xs) w) (hn:xs.length<=1000) (hs:aE xs<=100000) (hf:f≠5) (hg:-9223372036854775808<=got/\got<=9223372036854775807) (ha:-9223372036854775808<=asked/\asked<=9223372036854775807) (hw:-9223372036854775808<=now/\now<=9223372036854775807) :
    Calls Tryz.prog 229 #[.pointer (some ⟨b,0,none⟩),.int .i64 f,.bool kept] w λe w'=>∃a ac nv nc left esi,e=.returned (.agg (cW (.int .i64 st) (.string re) (.int .i64 mi) (.slice a xs.length ac) (.string bo) (.int .i64 f) (.int .i64 (dz xs asked got now)) (.int .i64 left) (.bool esi) (.slice nv (dw (bz xs)).length nc)))/\esi=((st==200)&&(vj (af xs jb) dev.data.toList).esi)/\aM w.heap.size (.slice a xs.length ac) xs w'/\aQ w.heap.size (.slice nv (dw (bz xs)).length nc) (dw (bz xs)) w'/\Below w.heap.size w w':=by
  obtain⟨W0,Nb⟩:=bg w (.cells (cW (.int .i64 0) (.string ⟨#[]⟩) (.int .i64 0) (.slice none 0 0) (.string ⟨#[]⟩) (.int .i64 0) (.int .i64 0) (.int .i64 0) (.bool false) (.slice none 0 0)) 207);have Nm:=bm Nb;have hz:W0.heap.size=w.heap.size+1:=by rw[<-Nb];simp
  have h0:=(Nm.block b (ae hb)).trans hb;have t1:(f==5)=false:=by simpa using hf
  have Nl:=ah (show w.alloc lq=W0 from Nb);have Nc:=ae hb;have e0:=aS h0 0;have e1:=aS h0 1;have e2:=aS h0 2;have e3:=aS h0 3;have e4:=aS h0 4;have H0:=ah h0;have VJ:=ay w (.cells (cW (.int .i64 0) (.string ⟨#[]⟩) (.int .i64 0) (.slice none 0 0) (.string ⟨#[]⟩) (.int .i64 0) (.int .i64 0) (.int .i64 0) (.bool false) (.slice none 0 0)) 207) _ rfl;rw[Nb]at VJ;have Zp:=ah VJ;clear Nb h0 VJ;go_enter Tryz.func229,Tryz.ntmps229
  go_upto_region 1 with(fail)
  rw[Nl.out];go_upto_region 2 with(fail)
  obtain⟨W1,Ne⟩:=bg W0 (.cells #[.int .i64 st,.string re,.int .i64 mi,.slice A xs.length c,.string bo,.int .i64 f,.int .i64 0,.int .i64 0,.bool false,.slice none 0 0] 207);have Ni:=bm Ne
  have hN:AN w b (ud (.int .i64 st) (.string re) (.int .i64 mi) (.slice A xs.length c) (.string bo) (.int .i64 asked) (.int .i64 got) (.slice V vn vc) ky bs false dev rq now r0 r1 r2 r3 r4 right) (cW (.int .i64 st) (.string re) (.int .i64 mi) (.slice A xs.length c) (.string bo) (.int .i64 f) (.int .i64 0) (.int .i64 0) (.bool false) (.slice none 0 0)) W1:=⟨(Ni.block _ (ae H0.out)).trans H0.out,Nc,(Ni.block _ (ae Zp.out)).trans Zp.out,by rw[<-Ne,<-hz];exact ay W0 _ _ rfl,bt Nm Ni⟩
  rw[Ne];have NZ:W1.heap.size=w.heap.size+2:=by rw[<-Ne];simp[hz]
  clear Ne Ni H0 Zp Nl Nm hz e0 e1 e2 e3 e4 hb;obtain⟨tk,PK⟩:=aH (ud (.int .i64 st) (.string re) (.int .i64 mi) (.slice A xs.length c) (.string bo) (.int .i64 asked) (.int .i64 got) (.slice V vn vc) ky bs false dev rq now r0 r1 r2 r3 r4 right);rw[PK]at hN;have OV:=ah PK;clear PK;go_cut [] (λwx=>∃a ac,AN w b tk (cW (.int .i64 st) (.string re) (.int .i64 mi) (.slice a xs.length ac) (.string bo) (.int .i64 f) (.int .i64 0) (.int .i64 0) (.bool false) (.slice none 0 0)) wx/\aM (w.heap.size+2) (.slice a xs.length ac) xs wx)
  case first=>
    have e3:W1.cell? ⟨b,3,none⟩=some (.slice A xs.length c):=by rw[hN.tkc 3,<-OV.out];rfl
    have hX:=hr.below hN.2.2.2.2;have HN:=ah hN;clear hN;go_wp2_with (at_builtin;refine tr (w.heap.size+2) (aM.nil _ _) (by omega) hX (by simp;omega) rfl _ _ rfl rfl rfl ?_)
    intro v2 W4 On Nf _;obtain⟨WL,WP,rfl⟩:=On.shape;have hN4:=HN.out.near Nf (aw _);have q3:W4.cell? ⟨w.heap.size+1,3,none⟩=some (.slice A xs.length c):=(hN4.at 3).1;have z3:=(hN4.at 3).2;have h5:=hN4.set 3 (.slice WL xs.length WP);rw[LY]at h5;have P9:aM (w.heap.size+2) (.slice WL xs.length WP) xs (W4.setCell ⟨w.heap.size+1,3,none⟩ (.slice WL xs.length WP)):=ownsRow_setCell_below On (by show w.heap.size+1<_;omega) _;obtain⟨H5,Rk⟩:=az h5 P9;clear HN Nf hN4 h5 P9 On;go_wp2_with fail
    go_meet;exact⟨WL,WP,H5.out,Rk.out⟩
  case rest=>
    clear hN NZ;obtain⟨a,ac,hN,hO⟩:=hcut;go_upto_region 5 with(fail)
    go_cut []from 28 to 37 (λwx=>AN w b tk (cW (.int .i64 st) (.string re) (.int .i64 mi) (.slice a xs.length ac) (.string bo) (.int .i64 f) (.int .i64 (dz xs asked got now)) (.int .i64 0) (.bool false) (.slice none 0 0)) wx/\aM (w.heap.size+2) (.slice a xs.length ac) xs wx)
    case first=>
      obtain⟨HN,HO⟩:=az hN hO;clear hO
      have e0:wc.cell? ⟨b,0,none⟩=some (.int .i64 st):=(HN.out.tkc 0).trans (congrArg (λt:Array Value=>t[0]?) OV.out.symm);have e1:wc.cell? ⟨b,1,none⟩=some (.string re):=(HN.out.tkc 1).trans (congrArg (λt:Array Value=>t[1]?) OV.out.symm);have e2:wc.cell? ⟨b,2,none⟩=some (.int .i64 mi):=(HN.out.tkc 2).trans (congrArg (λt:Array Value=>t[2]?) OV.out.symm);have e3:wc.cell? ⟨b,3,none⟩=some (.slice A xs.length c):=(HN.out.tkc 3).trans (congrArg (λt:Array Value=>t[3]?) OV.out.symm);have e4:wc.cell? ⟨b,4,none⟩=some (.string bo):=(HN.out.tkc 4).trans (congrArg (λt:Array Value=>t[4]?) OV.out.symm);have e5:wc.cell? ⟨b,5,none⟩=some (.int .i64 asked):=(HN.out.tkc 5).trans (congrArg (λt:Array Value=>t[5]?) OV.out.symm);have e6:wc.cell? ⟨b,6,none⟩=some (.int .i64 got):=(HN.out.tkc 6).trans (congrArg (λt:Array Value=>t[6]?) OV.out.symm);have e7:wc.cell? ⟨b,7,none⟩=some (.slice V vn vc):=(HN.out.tkc 7).trans (congrArg (λt:Array Value=>t[7]?) OV.out.symm)
      have e22:wc.cell? ⟨b,22,none⟩=some (.int .i64 now):=(HN.out.tkc 22).trans (congrArg (λt:Array Value=>t[22]?) OV.out.symm);have ka:=Kg st mi asked got now re bo A V xs.length c vn vc xs wc.drew (hE.below hN.drew.2.2.2.2) (hr.below hN.drew.2.2.2.2) hn (by omega) hg ha hw;unfold dI at ka;have KA:=ah ka;clear ka hN;go_region_with (first|(go_at_call 91;(with_reducible refine KA.out.mono ?_);rintro e w' ⟨rfl,hb⟩;have Ty:=HN.out.drew.below hb;have On:=HO.out.drew.below hb;have q6:=(Ty.at 6).1;have z6:=(Ty.at 6).2)|fail)
      all_goals
        go_wp2_with fail
        go_meet;have h:=Ty.set 6 (.int .i64 (dz xs asked got now));rw[L0]at h;exact⟨h,ownsRow_setCell_below On (by show w.heap.size+1<_;omega) _⟩
    case rest=>
      clear hN hO;obtain⟨hN,hO⟩:=hcut;obtain⟨G,hG⟩:=aH (dz xs asked got now);rw[hG]at hN;have HG:=ah hG;clear hG;go_upto_if 38 with(fail)
      go_cut [] (λwx=>∃left,AN w b tk (cW (.int .i64 st) (.string re) (.int .i64 mi) (.slice a xs.length ac) (.string bo) (.int .i64 f) (.int .i64 G) (.int .i64 left) (.bool false) (.slice none 0 0)) wx/\aM (w.heap.size+2) (.slice a xs.length ac) xs wx)
      case first=>
        cases kept
        · go_wp2_with fail
          go_meet;exact⟨0,hN,hO⟩
        · obtain⟨HN,HO⟩:=az hN hO
          clear hO
          have e0:wc.cell? ⟨b,0,none⟩=some (.int .i64 st):=(HN.out.tkc 0).trans (congrArg (λt:Array Value=>t[0]?) OV.out.symm);have e1:wc.cell? ⟨b,1,none⟩=some (.string re):=(HN.out.tkc 1).trans (congrArg (λt:Array Value=>t[1]?) OV.out.symm);have e2:wc.cell? ⟨b,2,none⟩=some (.int .i64 mi):=(HN.out.tkc 2).trans (congrArg (λt:Array Value=>t[2]?) OV.out.symm);have e3:wc.cell? ⟨b,3,none⟩=some (.slice A xs.length c):=(HN.out.tkc 3).trans (congrArg (λt:Array Value=>t[3]?) OV.out.symm);have e4:wc.cell? ⟨b,4,none⟩=some (.string bo):=(HN.out.tkc 4).trans (congrArg (λt:Array Value=>t[4]?) OV.out.symm);have e5:wc.cell? ⟨b,5,none⟩=some (.int .i64 asked):=(HN.out.tkc 5).trans (congrArg (λt:Array Value=>t[5]?) OV.out.symm);have e6:wc.cell? ⟨b,6,none⟩=some (.int .i64 got):=(HN.out.tkc 6).trans (congrArg (λt:Array Value=>t[6]?) OV.out.symm);have e7:wc.cell? ⟨b,7,none⟩=some (.slice V vn vc):=(HN.out.tkc 7).trans (congrArg (λt:Array Value=>t[7]?) OV.out.symm)
          have e20:wc.cell? ⟨b,20,none⟩=some (.string dev):=(HN.out.tkc 20).trans (congrArg (λt:Array Value=>t[20]?) OV.out.symm);have q6:wc.cell? ⟨w.heap.size+1,6,none⟩=some (.int .i64 G):=(hN.at 6).1;have kl:=yi st mi asked got re bo A V xs.length c vn vc xs dev wc.drew (hE.below hN.drew.2.2.2.2) (hr.below hN.drew.2.2.2.2) hn (by omega) hg;unfold dI at kl;generalize zX xs got dev.data.toList=LF at*;have ks:=λW=>G9 LF G W
          obtain⟨KL,KS⟩:=az kl ks;clear kl ks hN;go_upto_region 7 with(fail)
          go_region_with (first|(go_at_call 92;(with_reducible refine KL.out.mono ?_);rintro e w' ⟨rfl,hb⟩;have Ty:=HN.out.drew.below hb;have On:=HO.out.drew.below hb;have q7:=(Ty.at 7).1;have z7:=(Ty.at 7).2;have q6:w'.cell? ⟨w.heap.size+1,6,none⟩=some (.int .i64 G):=(Ty.at 6).1)|(go_at_call 294;(with_reducible refine(KS.out _).mono ?_);rintro e w'' ⟨rfl,rfl⟩)|fail)
          all_goals
            go_wp2_with fail
            go_meet;have h:=Ty.set 7 (.int .i64 (LM LF G));rw[LJ]at h;exact⟨_,h,ownsRow_setCell_below On (by show w.heap.size+1<_;omega) _⟩
      case rest=>
        clear hN hO;obtain⟨left,hN,hO⟩:=hcut;go_upto_region 8 with(fail)
        obtain⟨ct,PO⟩:=aH (vj (af xs jb) dev.data.toList);have HCT:=ah PO;clear PO;go_cut [8]from 52 to 63 (λs wx=>∃K,s=.pointer (some ⟨K,0,none⟩)/\wx.heap[K]?=some (.cells (L4 ct) 45 (0,0))/\AN w b tk (cW (.int .i64 st) (.string re) (.int .i64 mi) (.slice a xs.length ac) (.string bo) (.int .i64 f) (.int .i64 G) (.int .i64 left) (.bool false) (.slice none 0 0)) wx/\aM (w.heap.size+2) (.slice a xs.length ac) xs wx)
        case first=>
          obtain⟨vs,Sn⟩:=aH (af xs jb);have PO:=HCT.out;rw[Sn]at PO;have QS:=cD xs jb;have TG:∀v∈af xs jb,v.length<=900000:=λv hv=>by have:=gM hv;omega
          rw[Sn]at QS TG;have kv:=λW(h:Below w.heap.size w W)=>cX A xs.length c xs qE W (hr.below h) (by omega) (λf hf=>by have:=bM hf;omega) (by decide)
          rw[show(qE:ByteArray).data.toList=jb from rfl,Sn]at kv;have ko:=λav g W(h:Below w.heap.size w W)RK=>nx av vs.length g vs dev W (hE.below h).1 RK (by omega) TG
          rw[PO]at ko;unfold Bk at ko;obtain⟨KV,KO⟩:=az kv ko;clear kv ko Sn QS TG PO;have hNd:=hN.drew;have hNa:=(hN.below (aV wc (.cells Cs 45))).drew;have hKa:((wc.alloc (.cells Cs 45)).drew).heap[wc.heap.size]?=some (.cells Cs 45 (0,0)):=ay wc _ _ rfl;have hOd:=hO.drew;have hOa:=(hO.below (aV wc (.cells Cs 45))).drew;have e3:wc.cell? ⟨b,3,none⟩=some (.slice A xs.length c):=(hN.tkc 3).trans (congrArg (λt:Array Value=>t[3]?) OV.out.symm);have e20:wc.cell? ⟨b,20,none⟩=some (.string dev):=(hN.tkc 20).trans (congrArg (λt:Array Value=>t[20]?) OV.out.symm);have Nx:=hN.hi.2;have hKi:=hN.hi.1;have HZ:Hid (Cs=#[.bool false,.bool false,.bool false,.bool false,.int .i64 0,.int .i64 0]):=am rfl;rw[HZ.out]at hNa hKa hOa;clear hN hO;obtain⟨HND,HNA,Pa,Qa,HKA⟩:=gB hNd hNa hOd hOa hKa;clear hNd hNa hOd hOa hKa
          obtain⟨R8,HBA⟩:=az HND.out.2.2.2.2 HNA.out.2.2.2.2
          go_region_with (first
            |(go_at_call 12;(first|(with_reducible refine(KV.out _ R8.out).mono ?_)|(with_reducible refine(KV.out _ HBA.out).mono ?_));rintro e w1 ⟨av,gv,rfl,PN,M8⟩;(first|(have Ru:=am (HND.out.below M8);have OW:=am (Pa.out.below M8))|(have Ru:=am (HNA.out.below M8);have OW:=am (Qa.out.below M8);have YQ:=am ((M8.block _ (ae HKA.out)).trans HKA.out)));have QX:=am Ru.out.2.2.2.2;have SP:=am (aQ.rd PN).2;have OT:=am (bt QX.out (aV w1 lV));have Pk:=am (SP.out.below (aV w1 lV));have e20:w1.cell? ⟨b,20,none⟩=some (.string dev):=(Ru.out.tkc 20).trans (congrArg (λt:Array Value=>t[20]?) OV.out.symm);have Nx:=Ru.out.hi.2;clear PN M8)
            |(go_at_call 11;(first|(with_reducible refine(KO.out _ _ _ QX.out SP.out).mono ?_)|(with_reducible refine(KO.out _ _ _ OT.out Pk.out).mono ?_));rintro e w2 ⟨rfl,M9⟩;(first|(have RJ:=am (Ru.out.below M9);have NM:=am (OW.out.below M9))|(have RJ:=am ((Ru.out.below (aV w1 lV)).below M9);have NM:=am ((OW.out.below (aV w1 lV)).below M9)));(first|(have Th:=am ((M9.block _ (ae YQ.out)).trans YQ.out);obtain⟨⟨k0,k1,k2,k3,k4,k5⟩,l0,l1,l2,l3,l4,l5⟩:=t_ Th.out)|(have Th:=am ((M9.block _ (ae (ay w1 lV _ rfl))).trans (ay w1 lV _ rfl));obtain⟨⟨k0,k1,k2,k3,k4,k5⟩,l0,l1,l2,l3,l4,l5⟩:=t_ Th.out)|skip))
            |fail)
          all_goals
            go_wp2_with fail
            go_meet
            first
              | (have OA:=Th.out
                 refine⟨_,rfl,MR ct OA,RJ.out.near (L7 (aw _) _ _ _ _ _ _) ?_,MG NM.out OA (by decide) _ _ _ _ _ _⟩
                 first|exact hKi|exact Ru.out.hi.1)
              | (clear Ru
                 exact⟨_,rfl,ay w2 _ _ rfl,RJ.out.below (aV _ _),NM.out.below (aV _ _)⟩)
        case rest=>
          clear hN hO;obtain⟨K,rfl,hK,hN,hO⟩:=hcut;have HO:=ah hO;clear hO;go_upto_region 9 with(fail)
          go_cut []from 64 to 75 (λwx=>AN w b tk (cW (.int .i64 st) (.string re) (.int .i64 mi) (.slice a xs.length ac) (.string bo) (.int .i64 f) (.int .i64 G) (.int .i64 left) (.bool ((st==200)&&ct.esi)) (.slice none 0 0)) wx/\aM (w.heap.size+2) (.slice a xs.length ac) xs wx)
          case first=>
            have e0:wc.cell? ⟨b,0,none⟩=some (.int .i64 st):=(hN.tkc 0).trans (congrArg (λt:Array Value=>t[0]?) OV.out.symm);have kk:=aS hK 2;have q8:wc.cell? ⟨w.heap.size+1,8,none⟩=some (.bool false):=(hN.at 8).1;have z8:=(hN.at 8).2;have HN:=ah hN;clear hN hK
            cases d:(st==200)
            all_goals
              go_wp2_with fail
              go_meet
            · have h:=HN.out.set 8 (.bool false)
              rw[Gu]at h;exact⟨by rw[d,gN];exact h,ownsRow_setCell_below HO.out (by show w.heap.size+1<_;omega) _⟩
            · have h:=HN.out.set 8 (.bool ct.esi)
              rw[Gu]at h;exact⟨by rw[d,eJ];exact h,ownsRow_setCell_below HO.out (by show w.heap.size+1<_;omega) _⟩
          case rest=>
            clear hN hK HO;obtain⟨hN,hO⟩:=hcut;have HO:=ah hO;clear hO;obtain⟨ES,hES⟩:=aH ((st==200)&&ct.esi);rw[hES]at hN;have HES:=ah hES;clear hES;obtain⟨NO,hNO⟩:=aH (bz xs);have HNO:=ah hNO;have kn:=λW(h:Below w.heap.size w W)=>oq st re mi A xs.length c bo xs W (hr.below h) hn (λf hf=>by have:=bM hf;omega)
            rw[hNO]at kn;unfold ID at kn;clear hNO;go_upto_region 10 with(fail)
            go_cut []from 76 to 85 (λwx=>∃nv nc,AN w b tk (cW (.int .i64 st) (.string re) (.int .i64 mi) (.slice a xs.length ac) (.string bo) (.int .i64 f) (.int .i64 G) (.int .i64 left) (.bool ES) (.slice nv (dw NO).length nc)) wx/\aM (w.heap.size+2) (.slice a xs.length ac) xs wx/\aQ (w.heap.size+2) (.slice nv (dw NO).length nc) (dw NO) wx)
            case first=>
              have e0:wc.cell? ⟨b,0,none⟩=some (.int .i64 st):=(hN.tkc 0).trans (congrArg (λt:Array Value=>t[0]?) OV.out.symm);have e1:wc.cell? ⟨b,1,none⟩=some (.string re):=(hN.tkc 1).trans (congrArg (λt:Array Value=>t[1]?) OV.out.symm);have e2:wc.cell? ⟨b,2,none⟩=some (.int .i64 mi):=(hN.tkc 2).trans (congrArg (λt:Array Value=>t[2]?) OV.out.symm);have e3:wc.cell? ⟨b,3,none⟩=some (.slice A xs.length c):=(hN.tkc 3).trans (congrArg (λt:Array Value=>t[3]?) OV.out.symm);have e4:wc.cell? ⟨b,4,none⟩=some (.string bo):=(hN.tkc 4).trans (congrArg (λt:Array Value=>t[4]?) OV.out.symm);have k:=kn wc hN.2.2.2.2;have hi:=hN.hi.1;obtain⟨HN,KN⟩:=az hN k;clear hN k kn;go_wp2_with fail
              refine KN.out.mono ?_;rintro e w2 ⟨nv,nc,rfl,Nz,M9⟩;have Ty:=HN.out.below M9;have q9:w2.cell? ⟨w.heap.size+1,9,none⟩=some (.slice none 0 0):=(Ty.at 9).1;have z9:=(Ty.at 9).2;have h:=Ty.set 9 (.slice nv (dw NO).length nc);rw[LQ]at h;have NN:=aQ.base (B':=w.heap.size+2) Nz hi;have Tr:aQ (w.heap.size+2) (.slice nv (dw NO).length nc) (dw NO) (w2.setCell ⟨w.heap.size+1,9,none⟩ (.slice nv (dw NO).length nc)):=ownsRow_setCell_below NN (by show w.heap.size+1<_;omega) _;have P9:aM (w.heap.size+2) (.slice a xs.length ac) xs (w2.setCell ⟨w.heap.size+1,9,none⟩ (.slice nv (dw NO).length nc)):=ownsRow_setCell_below (HO.out.below M9) (by show w.heap.size+1<_;omega) _;have HF:=ah (aB h (aB P9 Tr));clear h Nz NN Tr P9 Ty M9 KN;go_wp2_with fail
              go_meet;exact⟨nv,nc,HF.out⟩
            case rest=>
              clear hN HO kn;obtain⟨nv,nc,hN,hO,hS⟩:=hcut;have q0:wc.cell? ⟨w.heap.size+1,0,none⟩=some (.int .i64 st):=(hN.at 0).1;have q1:wc.cell? ⟨w.heap.size+1,1,none⟩=some (.string re):=(hN.at 1).1;have q2:wc.cell? ⟨w.heap.size+1,2,none⟩=some (.int .i64 mi):=(hN.at 2).1;have q3:wc.cell? ⟨w.heap.size+1,3,none⟩=some (.slice a xs.length ac):=(hN.at 3).1;have q4:wc.cell? ⟨w.heap.size+1,4,none⟩=some (.string bo):=(hN.at 4).1;have q5:wc.cell? ⟨w.heap.size+1,5,none⟩=some (.int .i64 f):=(hN.at 5).1;have q6:wc.cell? ⟨w.heap.size+1,6,none⟩=some (.int .i64 G):=(hN.at 6).1;have q7:wc.cell? ⟨w.heap.size+1,7,none⟩=some (.int .i64 left):=(hN.at 7).1;have q8:wc.cell? ⟨w.heap.size+1,8,none⟩=some (.bool ES):=(hN.at 8).1;have q9:wc.cell? ⟨w.heap.size+1,9,none⟩=some (.slice nv (dw NO).length nc):=(hN.at 9).1
              have r0:=aS hN.2.2.1 0;have r1:=aS hN.2.2.1 1;have r2:=aS hN.2.2.1 2;have r3:=aS hN.2.2.1 3;have r4:=aS hN.2.2.1 4;have r5:=aS hN.2.2.1 5;have r6:=aS hN.2.2.1 6;have r7:=aS hN.2.2.1 7;have r8:=aS hN.2.2.1 8;have r9:=aS hN.2.2.1 9;have l0:=(ab hN.2.2.1 0).2.1;have l1:=(ab hN.2.2.1 1).2.1;have l2:=(ab hN.2.2.1 2).2.1;have l3:=(ab hN.2.2.1 3).2.1;have l4:=(ab hN.2.2.1 4).2.1;have l5:=(ab hN.2.2.1 5).2.1;have l6:=(ab hN.2.2.1 6).2.1;have l7:=(ab hN.2.2.1 7).2.1;have l8:=(ab hN.2.2.1 8).2.1;have l9:=(ab hN.2.2.1 9).2.1
              have h1:=(aj (j:=9) (v:=.slice nv (dw NO).length nc) (aj (j:=8) (v:=.bool ES) (aj (j:=7) (v:=.int .i64 left) (aj (j:=6) (v:=.int .i64 G) (aj (j:=5) (v:=.int .i64 f) (aj (j:=4) (v:=.string bo) (aj (j:=3) (v:=.slice a xs.length ac) (aj (j:=2) (v:=.int .i64 mi) (aj (j:=1) (v:=.string re) (aj (j:=0) (v:=.int .i64 st) hN.2.2.1))))))))));unfold cW at h1;simp only[cH,cI,cF]at h1;obtain⟨HH,HN,HO,HS⟩:=bK h1 hN hO hS;clear h1 hN hO hS;go_wp2_with fail
              have h1:=HH.out;have b0:=(ab h1 0).1;have b1:=(ab h1 1).1;have b2:=(ab h1 2).1;have b3:=(ab h1 3).1;have b4:=(ab h1 4).1;have b5:=(ab h1 5).1;have b6:=(ab h1 6).1;have b7:=(ab h1 7).1;have b8:=(ab h1 8).1;have b9:=(ab h1 9).1;simp only[cT,cS,cv]at b0 b1 b2 b3 b4 b5 b6 b7 b8 b9;refine bodyPost_ret_by (v:=.agg (cW (.int .i64 st) (.string re) (.int .i64 mi) (.slice a xs.length ac) (.string bo) (.int .i64 f) (.int .i64 G) (.int .i64 left) (.bool ES) (.slice nv (dw NO).length nc))) ?_ rfl ?_
              · unfold cW
                simp[results,Tryz.results229,go_sem,b0,b1,b2,b3,b4,b5,b6,b7,b8,b9]
              · rw[HG.out,HNO.out,HCT.out]
                refine⟨a,ac,nv,nc,left,ES,rfl,HES.out.symm,?_,?_,(Below.setCell (Below.setCell (Below.setCell (Below.setCell (Below.setCell (Below.setCell (Below.setCell (Below.setCell (Below.setCell (Below.setCell HN.out.2.2.2.2 (p:=⟨w.heap.size,0,none⟩) (aw _) _) (p:=⟨w.heap.size,1,none⟩) (aw _) _) (p:=⟨w.heap.size,2,none⟩) (aw _) _) (p:=⟨w.heap.size,3,none⟩) (aw _) _) (p:=⟨w.heap.size,4,none⟩) (aw _) _) (p:=⟨w.heap.size,5,none⟩) (aw _) _) (p:=⟨w.heap.size,6,none⟩) (aw _) _) (p:=⟨w.heap.size,7,none⟩) (aw _) _) (p:=⟨w.heap.size,8,none⟩) (aw _) _) (p:=⟨w.heap.size,9,none⟩) (aw _) _)⟩
                · exact aM.base (B:=w.heap.size+2) (ownsRow_setCell_below (ownsRow_setCell_below (ownsRow_setCell_below (ownsRow_setCell_below (ownsRow_setCell_below (ownsRow_setCell_below (ownsRow_setCell_below (ownsRow_setCell_below (ownsRow_setCell_below (ownsRow_setCell_below HO.out (a:=⟨w.heap.size,0,none⟩) (by show w.heap.size<_;omega) _) (a:=⟨w.heap.size,1,none⟩) (by show w.heap.size<_;omega) _) (a:=⟨w.heap.size,2,none⟩) (by show w.heap.size<_;omega) _) (a:=⟨w.heap.size,3,none⟩) (by show w.heap.size<_;omega) _) (a:=⟨w.heap.size,4,none⟩) (by show w.heap.size<_;omega) _) (a:=⟨w.heap.size,5,none⟩) (by show w.heap.size<_;omega) _) (a:=⟨w.heap.size,6,none⟩) (by show w.heap.size<_;omega) _) (a:=⟨w.heap.size,7,none⟩) (by show w.heap.size<_;omega) _) (a:=⟨w.heap.size,8,none⟩) (by show w.heap.size<_;omega) _) (a:=⟨w.heap.size,9,none⟩) (by show w.heap.size<_;omega) _) (by omega)
                · exact aQ.base (B:=w.heap.size+2) (ownsRow_setCell_below (ownsRow_setCell_below (ownsRow_setCell_below (ownsRow_setCell_below (ownsRow_setCell_below (ownsRow_setCell_below (ownsRow_setCell_below (ownsRow_setCell_below (ownsRow_setCell_below (ownsRow_setCell_below HS.out (a:=⟨w.heap.size,0,none⟩) (by show w.heap.size<_;omega) _) (a:=⟨w.heap.size,1,none⟩) (by show w.heap.size<_;omega) _) (a:=⟨w.heap.size,2,none⟩) (by show w.heap.size<_;omega) _) (a:=⟨w.heap.size,3,none⟩) (by show w.heap.size<_;omega) _) (a:=⟨w.heap.size,4,none⟩) (by show w.heap.size<_;omega) _) (a:=⟨w.heap.size,5,none⟩) (by show w.heap.size<_;omega) _) (a:=⟨w.heap.size,6,none⟩) (by show w.heap.size<_;omega) _) (a:=⟨w.heap.size,7,none⟩) (by show w.heap.size<_;omega) _) (a:=⟨w.heap.size,8,none⟩) (by show w.heap.size<_;omega) _) (a:=⟨w.heap.size,9,none⟩) (by show w.heap.size<_;omega) _) (by omega)
theorem hp(s p:ByteArray)(w:World):Calls Tryz.prog 83 #[.string s,.string p] w λe w'=>e=.returned (.bool (Lib.hasPrefix s.data.toList p.data.toList))/\w=w':=by
 have H:=Lib.hasPrefix_raw s p;by_cases h1:p.size<=s.size
 ·have H2:=ah H;clear H;go_enter Tryz.func83,Tryz.ntmps83
  go_wp2;go_ret;exact⟨by rw[<-H2.out];simp[h1],rfl⟩
 ·have H2:=ah H;clear H;go_enter Tryz.func83,Tryz.ntmps83
  go_wp2;go_ret;exact⟨by rw[<-H2.out];simp[h1],rfl⟩
def uz(s p:ByteArray):ByteArray:=if Lib.hasPrefix s.data.toList p.data.toList then s.extract p.size s.size else s
theorem JB(s p:ByteArray):(uz s p).size<=s.size:=by unfold uz;split<;>simp[eu]
theorem cp(s p:ByteArray)(w:World):Calls Tryz.prog 159 #[.string s,.string p] w λe w'=>e=.returned (.tuple #[.string (uz s p),.bool (Lib.hasPrefix s.data.toList p.data.toList)])/\w=w':=by
 by_cases h:Lib.hasPrefix s.data.toList p.data.toList=true
 ·have hle:p.size<=s.size:=by
   have:=Lib.hasPrefix_raw s p;rw[h]at this;simp at this;exact this.1
  have hc:uz s p=s.extract p.size s.size:=by unfold uz;rw[if_pos h]
  have Hc:=ah hc;clear hc;have H:=ah h;clear h;go_enter Tryz.func159,Tryz.ntmps159
  go_wp2_with (first|(go_at_call 83;refine(hp s p _).mono ?_;rintro e w' ⟨rfl,rfl⟩;rw[H.out])|go_in)
  go_ret2
  exact⟨by rw[Hc.out,H.out];rfl,rfl⟩
 ·have h':Lib.hasPrefix s.data.toList p.data.toList=false:=by simpa using h
  have hc:uz s p=s:=by unfold uz;rw[if_neg h]
  have Hc:=ah hc;clear hc h;have H:=ah h';clear h';go_enter Tryz.func159,Tryz.ntmps159
  go_wp2_with (first|(go_at_call 83;refine(hp s p _).mono ?_;rintro e w' ⟨rfl,rfl⟩;rw[H.out])|go_in)
  go_ret2
  exact⟨by rw[Hc.out,H.out];rfl,rfl⟩
def G6(c:UInt8):Bool:=!(decide (c.toNat<=32)||c.toNat==34||c.toNat==127)
def ji(t:ByteArray):ByteArray:=t.extract 1 (t.size-1)
def jG(t:ByteArray):Bool:=if h:2<=t.size then t[0].toNat==34&&t[t.size-1].toNat==34&&(ji t).data.toList.all G6 else false
def CE:ByteArray:=⟨#[]⟩
structure vT where
 weak:Bool
 right:Bool
 tag:ByteArray
def mX(s:ByteArray):vT:=if jG (uz s ⟨#[87,47]⟩)then⟨Lib.hasPrefix s.data.toList [87,47],true,ji (uz s ⟨#[87,47]⟩)⟩else⟨false,false,CE⟩
def vT.val(x:vT):Value:=.agg #[.bool x.weak,.bool x.right,.string x.tag]
set_option linter.unusedVariables false in
theorem rd(s:ByteArray)(w:World)(hs:s.size<=8000):Calls Tryz.prog 307 #[.string s] w λe w'=>e=.returned (mX s).val/\Below w.heap.size w w':=by
 have hle:=JB s ⟨#[87,47]⟩;obtain⟨E,hE⟩:∃E,E=mX s:=⟨_,rfl⟩;have HE:=ah hE;rw[<-hE];clear hE;unfold mX at HE;rw[show Lib.hasPrefix s.data.toList [87,47]=Lib.hasPrefix s.data.toList (⟨#[87,47]⟩:ByteArray).data.toList from rfl]at HE;go_enter Tryz.func307,Tryz.ntmps307
 go_upto_region 2 with(first|(go_at_call 159;refine(cp s _ _).mono ?_;rintro e w' ⟨rfl,rfl⟩) )
 generalize uz s ⟨#[87,47]⟩=t at*;generalize Lib.hasPrefix _ _=b at*;have ht:t.size<=8000:=by omega
 clear hle;by_cases h2:2<=t.size
 ·by_cases h0:t[0].toNat=34
  ·by_cases h1:t[t.size-1].toNat=34
   ·have hx:(ji t).size=t.size-2:=by unfold ji;simp[eu];omega
    have Hx:=ah hx;have e1:t.size-1-1=t.size-2:=by omega
    have d0:((t[0].toNat:Int)!=34)=false:=by simp;omega
    have d1:((t[t.size-1].toNat:Int)!=34)=false:=by simp;omega
    have d2:decide ((t.size:Int)<2)=false:=by simp;omega
    go_wp2;clear d0 d1 d2;have ei:t.extract 1 (t.size-1)=ji t:=rfl;simp only[ei,<-Hx.out];have P_:t.size=(ji t).size+2:=by omega
    have hI:∀k,k<=(ji t).size->((ji t).data.toList.take k).all G6=true->k=(ji t).size->jG t=true:=by intro k _ hk e;unfold jG;rw[dif_pos h2,h0,h1,<-eH (ji t) k (by omega),hk];rfl
    have hB:∀k(h:k<(ji t).size),G6 (ji t)[k]=false->jG t=false:=by intro k h hk;unfold jG;rw[dif_pos h2,nr G6 (ji t) k h hk];simp
    obtain⟨HI,HB⟩:=az hI hB;clear hI hB hx e1 P_ Hx ei h0 h1;have hn:(ji t).size<=8000:=by unfold ji;simp[eu];omega
    clear ht h2 hs;generalize ji t=g at*;go_loop [37] (λi=>∃k:Nat,k<=g.size/\i=.int .i64 k/\(g.data.toList.take k).all G6=true) (λi=>g.size-(intOf i).toNat)
    case atStart=>exact⟨0,a_ _,rfl,by simp⟩
    case round=>
     obtain⟨k,hk,rfl,NY⟩:=hrel;have Py:=ah NY;clear NY;by_cases Nc:k<g.size
     ·by_cases hb:G6 g[k]=true
      ·have c1:decide ((g[k].toNat:Int)<=32)=false:=by simp[G6]at hb;simp;omega
       have c2:((g[k].toNat:Int)==34)=false:=by simp[G6]at hb;simp;omega
       have c3:((g[k].toNat:Int)==127)=false:=by simp[G6]at hb;simp;omega
       have Hb:=ah hb;clear hb;go_wp2;go_round
       case rel=>exact⟨k+1,by omega,by go_num,by rw[lE G6 g k Nc,Py.out,Hb.out];rfl⟩
       case measure=>simp[intOf];omega
      ·have hf:=HB.out k Nc (by simpa using hb);have Hf:=ah hf;clear hf;have N4:decide ((g[k].toNat:Int)<=32)=true\/(decide ((g[k].toNat:Int)<=32)=false/\((g[k].toNat:Int)==34)=true)\/(decide ((g[k].toNat:Int)<=32)=false/\((g[k].toNat:Int)==34)=false/\((g[k].toNat:Int)==127)=true):=by simp[G6]at hb;simp;omega
       clear hb;rcases N4 with c1|⟨c1,c2⟩|⟨c1,c2,c3⟩
       all_goals
        go_wp2;refine bodyPost_ret (v:=(⟨false,false,CE⟩:vT).val) (by simp[results,Tryz.results307,go_sem];rfl) rfl ⟨?_,(aO _ _).alloc (aw _) _⟩;rw[HE.out,Hf.out];rfl
     ·have hf:=HI.out k hk Py.out (by omega);have Hf:=ah hf;clear hf;go_wp2;refine bodyPost_ret (v:=(⟨b,true,g⟩:vT).val) (by simp[results,Tryz.results307,go_sem];rfl) rfl ⟨?_,(aO _ _).alloc (aw _) _⟩;rw[HE.out,Hf.out];rfl
   ·have hf:jG t=false:=by unfold jG;rw[dif_pos h2];simp[h1]
    have d0:((t[0].toNat:Int)!=34)=false:=by simp;omega
    have d1:((t[t.size-1].toNat:Int)!=34)=true:=by simp;omega
    have d2:decide ((t.size:Int)<2)=false:=by simp;omega
    clear h0 h1;have Hf:=ah hf;clear hf;go_wp2;refine bodyPost_ret (v:=(⟨false,false,CE⟩:vT).val) (by simp[results,Tryz.results307,go_sem];rfl) rfl ⟨?_,(aO _ _).alloc (aw _) _⟩;rw[HE.out,Hf.out];rfl
  ·have hf:jG t=false:=by unfold jG;rw[dif_pos h2];simp[h0]
   have d0:((t[0].toNat:Int)!=34)=true:=by simp;omega
   have d2:decide ((t.size:Int)<2)=false:=by simp;omega
   clear h0;have Hf:=ah hf;clear hf;go_wp2;refine bodyPost_ret (v:=(⟨false,false,CE⟩:vT).val) (by simp[results,Tryz.results307,go_sem];rfl) rfl ⟨?_,(aO _ _).alloc (aw _) _⟩;rw[HE.out,Hf.out];rfl
 ·have hf:jG t=false:=by unfold jG;rw[dif_neg h2]
  have Hf:=ah hf;clear hf;go_wp2;refine bodyPost_ret (v:=(⟨false,false,CE⟩:vT).val) (by simp[results,Tryz.results307,go_sem];rfl) rfl ⟨?_,(aO _ _).alloc (aw _) _⟩;rw[HE.out,Hf.out];rfl
theorem DR(a:ByteArray)(w:World)(ha:a.size<=8000)(h:(mX a).right=true):Calls Tryz.prog 288 #[.string a] w λe w'=>e=.returned (.tuple #[.bool (mX a).weak,.string (mX a).tag,.int .i64 0])/\Below w.heap.size w w':=by
 have hr:=rd a;unfold vT.val at hr;rw[h]at hr;have H:=ah hr;clear h hr;generalize (mX a).weak=wk at*;generalize (mX a).tag=tg at*;go_enter Tryz.func288,Tryz.ntmps288
 go_wp2_with (go_at_call 307;refine(H.out _ ha).mono ?_;rintro e w' ⟨rfl,hb⟩)
 go_quiet (fail)
 go_wp2;go_ret3
 exact⟨rfl,Go.below_drewN (hb.alloc hb.size _) _⟩
theorem I2(a:ByteArray)(w:World)(ha:a.size<=8000)(h:(mX a).right=false):Calls Tryz.prog 288 #[.string a] w λe w'=>e=.returned (.tuple #[.bool false,.string CE,.int .i64 4])/\Below w.heap.size w w':=by
 have hr:=rd a;unfold vT.val at hr;rw[h]at hr;have H:=ah hr;clear h hr;generalize (mX a).weak=wk at*;generalize (mX a).tag=tg at*;go_enter Tryz.func288,Tryz.ntmps288
 go_wp2_with (go_at_call 307;refine(H.out _ ha).mono ?_;rintro e w' ⟨rfl,hb⟩)
 go_ret3
 exact⟨rfl,hb.alloc hb.size _⟩
def vT.parse(x:vT):Value:=bif x.right then .tuple #[.bool x.weak,.string x.tag,.int .i64 0]else .tuple #[.bool false,.string CE,.int .i64 4]
theorem FF(a:ByteArray)(w:World)(ha:a.size<=8000):Calls Tryz.prog 288 #[.string a] w λe w'=>e=.returned (mX a).parse/\Below w.heap.size w w':=by
 unfold vT.parse
 cases h:(mX a).right
 ·exact I2 a w ha h
 ·exact DR a w ha h
def vT.same(x y:vT):Bool:=x.right&&y.right&&(x.tag.data.toList==y.tag.data.toList)
theorem Gk(x y:vT)(w:World):Calls Tryz.prog 309 #[x.val,y.val] w λe w'=>e=.returned (.bool (x.same y))/\Below w.heap.size w w':=by
 obtain⟨xw,xr,xt⟩:=x;obtain⟨yw,yr,yt⟩:=y;unfold vT.same vT.val
 cases xr<;>cases yr
 all_goals
  go_enter Tryz.func309,Tryz.ntmps309
  go_wp2;go_ret;exact⟨by simp[dY],((aO _ _).alloc (aw _) _).alloc (by simp) _⟩
theorem Ii(a b:ByteArray)(w:World)(ha:a.size<=8000)(hb:b.size<=8000):Calls Tryz.prog 235 #[.string a,.string b] w λe w'=>e=.returned (.bool ((mX a).same (mX b)))/\Below w.heap.size w w':=by
 have hB:=aO w.heap.size w;go_enter Tryz.func235,Tryz.ntmps235
 go_wp2_with (first|(go_at_call 307;refine(rd _ _ (by assumption)).mono ?_;rintro e w' ⟨rfl,hb⟩;replace hB:=bt hB hb;clear hb)|(go_at_call 309;refine(Gk _ _ _).mono ?_;rintro e w' ⟨rfl,hb⟩;replace hB:=bt hB hb;clear hb)|(go_at_call 308;go_in))
 go_ret;exact⟨rfl,hB⟩
def iP(l:List UInt8):Bool:=(mX ⟨l.toArray⟩).right
def qy(l:List UInt8):List (List UInt8) × Int:=bif(ax 44 l).2==0&&(!(ax 44 l).1.isEmpty&&(ax 44 l).1.all iP)then((ax 44 l).1,0)else([],4)
theorem vq(l:List UInt8):(ax 44 l).1.length<=64:=by
 unfold ax
 cases((44:UInt8).toNat==34||(44:UInt8).toNat==92)
 ·cases ea 44 false false [] [] l with
  |none=>simp[fG]
  |some ls=>
   simp only[fG,cond_false]
   cases h:decide (64<ls.length)
   ·simp at h ⊢;exact h
   ·simp
 ·simp
theorem EQ(p:List UInt8)(w:World)(hp:p.length<=8000):Calls Tryz.prog 306 #[.string ⟨p.toArray⟩] w λe w'=>e=.returned (.bool (!iP p))/\Below w.heap.size w w':=by
 have k1:=rd ⟨p.toArray⟩ w (by rw[aY];exact hp);unfold vT.val at k1;have hk:iP p=(mX ⟨p.toArray⟩).right:=rfl;rw[<-hk]at k1;clear hk;generalize iP p=r at*;generalize (mX ⟨p.toArray⟩).weak=wk at*;generalize (mX ⟨p.toArray⟩).tag=tg at*;have K1:=ah k1;clear k1;have hfd:∀w:World,(Instr.field 399 (.agg #[.bool wk,.bool r,.string tg]) 1).run Tryz.prog w=.ok (.bool r) w:=λ_=>by kernel_rfl
 go_enter Tryz.func306,Tryz.ntmps306
 go_wp2_with fail
 refine K1.out.mono ?_;rintro e w1 ⟨rfl,M8⟩;go_wp2;go_ret;exact⟨rfl,M8⟩
def Lz(ls:List (List UInt8))(w:World)(e:Ending)(w':World):Prop:=∃i:Int,e=.returned (.int .i64 i)/\decide (0<=i)=!ls.all iP/\Below w.heap.size w w'
theorem AB(A:Option Addr)(n c:Nat)(ls:List (List UInt8))(w:World)(hr:Rd A n 1 (aF ls) w)(hn:n<=1000000)(hl:∀x∈ls,x.length<=8000):Calls Tryz.prog 139 #[.slice A n c,.func (.func 306) #[] #[]] w (Lz ls w):=by
 obtain rfl:=hr.str;have hB:=aO w.heap.size w;obtain⟨HR,HL⟩:=az hr hl;clear hr hl;go_enter Tryz.func139,Tryz.ntmps139
 go_wp2;go_loopw [8] (λi wr=>∃k:Nat,k<=ls.length/\i=.int .i64 k/\Hid ((ls.take k).all iP=true)/\Below w.heap.size w wr) (λi _=>ls.length-(intOf i).toNat)
 case atStart=>exact⟨0,a_ _,rfl,am rfl,hB⟩
 case round=>
  clear hB;obtain⟨k,hk,rfl,HA,M_⟩:=hrel;by_cases Nc:k<ls.length
  ·obtain⟨b,o,rfl,hl,c1⟩:=(HR.out.below M_).str_at (k:=k) Nc;have hv:=HL.out ls[k] (bQ _)
   have NB:iP ls[k]=false->Hid (decide ((0:Int)<=(k:Int))=!ls.all iP):=by
    intro h;refine am ?_;have:ls.all iP=false:=by rw[List.all_eq_false];exact⟨ls[k],bQ _,by simp[h]⟩
    rw[this];simp
   have NA:iP ls[k]=true->Hid ((ls.take (k+1)).all iP=true):=by intro h;refine am ?_;rw[gL Nc,n7,HA.out];simp[h]
   generalize ls[k]=p at*;have k1:=λw=>EQ p w hv
   obtain⟨OC,OS⟩:=az NB NA;clear NB NA HA
   cases hq:iP p
   ·rw[hq]at k1;have hf:=OC.out hq;have K1:=ah k1;clear k1 hq;go_wp2_with fail
    refine(K1.out _).mono ?_;rintro e w1 ⟨rfl,M8⟩;go_wp2;go_ret;exact⟨k,rfl,hf.out,bt M_ M8⟩
   ·rw[hq]at k1;have hf:=OS.out hq;have K1:=ah k1;clear k1 hq;go_wp2_with fail
    refine(K1.out _).mono ?_;rintro e w1 ⟨rfl,M8⟩;go_wp2;go_roundw
    case rel=>exact⟨k+1,by omega,by go_num,hf,bt M_ M8⟩
    case measure=>simp[intOf];omega
  ·have NI:k=ls.length:=by omega
   subst NI;have ha:=HA.out;rw[eM]at ha;have VM:=ah ha;clear ha HA;go_wp2;go_ret;exact⟨-1,rfl,by rw[VM.out];rfl,M_⟩
theorem tf(A:Option Addr)(n c:Nat)(ls:List (List UInt8))(w:World)(hr:Rd A n 1 (aF ls) w)(hn:n<=1000000)(hl:∀x∈ls,x.length<=8000):Calls Tryz.prog 81 #[.slice A n c,.func (.func 306) #[] #[]] w λe w'=>e=.returned (.bool (!ls.all iP))/\Below w.heap.size w w':=by
 have k1:=AB A n c ls w hr hn hl;have K1:=ah k1;clear k1;go_enter Tryz.func81,Tryz.ntmps81
 go_wp2_with fail
 refine K1.out.mono ?_;rintro e w1 ⟨i,rfl,hi,M8⟩;have HI:=ah hi;clear hi;go_wp2;go_ret;exact⟨by rw[<-HI.out];rfl,M8⟩
theorem Eg(s:ByteArray)(w:World)(hs:s.size<=8000):Calls Tryz.prog 233 #[.string s] w (dW w (qy s.data.toList)):=by
 have k1:=iJ s 44 w (by omega);have OG:=ci 44 s.data.toList
 have hcn:(ax 44 s.data.toList).1.length<=64:=by have:=vq s.data.toList;exact this
 rw[<-aY]at OG;have he:qy s.data.toList=bif(ax 44 s.data.toList).2==0&&(!(ax 44 s.data.toList).1.isEmpty&&(ax 44 s.data.toList).1.all iP)then((ax 44 s.data.toList).1,0)else([],4):=rfl;generalize qy s.data.toList=out at*;generalize ax 44 s.data.toList=r at*;obtain⟨ls,er⟩:=r;simp only at OG hcn he
 obtain⟨K1,HE⟩:=az k1 he;clear k1 he;have hl:∀x∈ls,x.length<=8000:=λx hx=>by have:=cG hx;omega
 go_enter Tryz.func233,Tryz.ntmps233
 go_wp2_with fail
 refine K1.out.mono ?_;rintro e w1 ⟨a1,c1,rfl,Nr,M8⟩;simp only at Nr
 cases hz:(er==0)
 ·have n1:(er !=0)=true:=by simp[bne,hz]
  have ho:=HE.out;rw[hz,gN,cond_false]at ho;subst ho;go_wp2;go_ret2
  exact dW.none M8
 ·have n1:(er !=0)=false:=by simp[bne,hz]
  cases P4:ls with
  |nil=>
   have ho:=HE.out;rw[P4,List.isEmpty_nil,di,gN,jU,cond_false]at ho;subst ho;subst P4;go_wp2;go_ret2
   exact dW.none M8
  |cons x r=>
   rw[<-P4];have UO:0<ls.length:=by rw[P4];simp
   have Yn:ls.isEmpty=false:=by rw[P4];rfl
   have ho:=HE.out;rw[hz,Yn,iC,eJ,eJ]at ho;clear P4 Yn;have k2:=tf a1 ls.length c1 ls w1 Nr.rd.2 (by omega) hl;have HO:=ah Nr;clear Nr;have t0:((ls.length:Int)==0)=false:=by rw[beq_eq_false_iff_ne];omega
   cases ha:ls.all iP
   ·rw[ha]at k2;rw[ha,cond_false]at ho;subst ho;have K2:=ah k2;clear k2 ha;go_wp2_with fail
    refine K2.out.mono ?_;rintro e w2 ⟨rfl,M9⟩;go_wp2;go_ret2
    exact dW.none (bt M8 M9)
   ·rw[ha]at k2;rw[ha,cond_true]at ho;subst ho;have K2:=ah k2;clear k2 ha;go_wp2_with fail
    refine K2.out.mono ?_;rintro e w2 ⟨rfl,M9⟩;go_wp2;go_ret2
    exact⟨a1,c1,rfl,HO.out.below M9,bt M8 M9⟩
def wN(xs:List aU)(name:List UInt8)(now:Int):Int × Bool:=((kJ (c_ xs name).1 now).1,(c_ xs name).2&&(kJ (c_ xs name).1 now).2==0)
theorem sZ(A:Option Addr)(n c:Nat)(xs:List aU)(name:ByteArray)(now:Int)(w:World)(hE:d9 w)(hr:Rd A n 2 (aJ xs) w)(hn:n<=1000000)(hs:aE xs<=1000000)(OQ:name.size<=1000000):Calls Tryz.prog 236 #[.slice A n c,.string name,.int .i64 now] w λe w'=>e=.returned (.tuple #[.int .i64 (wN xs name.data.toList now).1,.bool (wN xs name.data.toList now).2])/\Below w.heap.size w w':=by
 have k1:=iN A n c xs name w hr hn hs OQ;have k2:=λW(hb:Below w.heap.size w W)=>n8 ⟨(c_ xs name.data.toList).1.toArray⟩ now W (hE.below hb)
 simp only at k2
 unfold wN;simp only
 unfold ux at k1;generalize c_ xs name.data.toList=g at*;obtain⟨gv,gi⟩:=g;simp only at k1 k2 ⊢
 generalize kJ gv now=r at*;obtain⟨t,er⟩:=r;simp only at k2 ⊢
 obtain⟨K1,K2⟩:=az k1 k2;clear k1 k2 hr hs hE
 cases gi<;>cases hz:(er==0)
 all_goals
  go_enter Tryz.func236,Tryz.ntmps236
  go_wp2_with fail
  refine K1.out.mono ?_;rintro e w1 ⟨rfl,M8⟩;have k3:=K2.out w1 M8;have K3:=ah k3;clear k3;go_wp2_with fail
  refine K3.out.mono ?_;rintro e w2 ⟨rfl,M9⟩;go_wp2;go_ret2
  exact⟨rfl,bt M8 M9⟩
theorem Iw(p own:ByteArray)(T:Nat)(w:World)(hp:p.size<=8000)(ho:own.size<=8000)(hT:w.cell? ⟨T,0,none⟩=some (.string own)):Calls Tryz.prog 234 #[.string p,.pointer (some ⟨T,0,none⟩)] w λe w'=>e=.returned (.bool ((mX p).same (mX own)))/\Below w.heap.size w w':=by
 have k1:=Ii p own w hp ho;generalize (mX p).same (mX own)=r at*;have K1:=ah k1;clear k1;go_enter Tryz.func234,Tryz.ntmps234
 go_wp2_with fail
 refine K1.out.mono ?_;rintro e w1 ⟨rfl,M8⟩;go_wp2;go_ret;exact⟨rfl,M8⟩
def xL(ls:List (List UInt8))(own:ByteArray):Bool:=ls.any λp=>(mX ⟨p.toArray⟩).same (mX own)
theorem xe(A:Option Addr)(n c:Nat)(ls:List (List UInt8))(own:ByteArray)(T:Nat)(w:World)(hr:Rd A n 1 (aF ls) w)(hn:n<=1000000)(hl:∀x∈ls,x.length<=8000)(ho:own.size<=8000)(hT:w.cell? ⟨T,0,none⟩=some (.string own))(Qs:T<w.heap.size):Calls Tryz.prog 139 #[.slice A n c,.func (.func 234) #[] #[.pointer (some ⟨T,0,none⟩)]] w λe w'=>∃i:Int,e=.returned (.int .i64 i)/\decide (0<=i)=xL ls own/\Below w.heap.size w w':=by
 obtain rfl:=hr.str;obtain⟨HR,HL⟩:=az hr hl;clear hr hl
 have HC:=am (show ∀p:List UInt8,p.length<=8000->∀W,Below w.heap.size w W->Calls Tryz.prog 234 #[.string ⟨p.toArray⟩,.pointer (some ⟨T,0,none⟩)] W fun e w'=>e=.returned (.bool ((mX ⟨p.toArray⟩).same (mX own)))/\Below W.heap.size W w' from
  λp hp W hb=>Iw ⟨p.toArray⟩ own T W (by rw[aY];exact hp) ho ((hb.cell (p:=⟨T,0,none⟩) Qs).trans hT))
 clear hT;go_enter Tryz.func139,Tryz.ntmps139
 go_wp2_with fail
 go_loopw [8] (λi wr=>∃k:Nat,k<=ls.length/\i=.int .i64 k/\Hid (xL (ls.take k) own=false)/\Below w.heap.size w wr) (λi _=>ls.length-(intOf i).toNat)
 case atStart=>exact⟨0,a_ _,rfl,am rfl,aO _ _⟩
 case round=>
  obtain⟨k,hk,rfl,HA,M_⟩:=hrel;by_cases Nc:k<ls.length
  ·obtain⟨b,o,rfl,hl,c1⟩:=(HR.out.below M_).str_at (k:=k) Nc;have hv:=HL.out ls[k] (bQ _)
   have NB:(mX ⟨ls[k].toArray⟩).same (mX own)=true->Hid (decide ((0:Int)<=(k:Int))=xL ls own):=by
    intro h;refine am ?_;have:xL ls own=true:=by unfold xL;rw[List.any_eq_true];exact⟨ls[k],bQ _,h⟩
    rw[this];simp
   have NA:(mX ⟨ls[k].toArray⟩).same (mX own)=false->Hid (xL (ls.take (k+1)) own=false):=by intro h;refine am ?_;have h0:=HA.out;unfold xL at h0 ⊢;rw[gL Nc,List.any_append,h0];simp[h]
   generalize ls[k]=p at*;have k1:=HC.out p hv wr M_;obtain⟨OC,OS⟩:=az NB NA;clear NB NA HA
   cases hq:(mX ⟨p.toArray⟩).same (mX own)
   ·rw[hq]at k1;have hf:=OS.out hq;have K1:=ah k1;clear k1 hq;go_wp2_with fail
    refine K1.out.mono ?_;rintro e w1 ⟨rfl,M8⟩;go_wp2;go_roundw
    case rel=>exact⟨k+1,by omega,by go_num,hf,bt M_ M8⟩
    case measure=>simp[intOf];omega
   ·rw[hq]at k1;have hf:=OC.out hq;have K1:=ah k1;clear k1 hq;go_wp2_with fail
    refine K1.out.mono ?_;rintro e w1 ⟨rfl,M8⟩;go_wp2;go_ret;exact⟨k,rfl,hf.out,bt M_ M8⟩
  ·have NI:k=ls.length:=by omega
   subst NI;have ha:=HA.out;rw[eM]at ha;have VM:=ah ha;clear ha HA;go_wp2;go_ret;exact⟨-1,rfl,by rw[VM.out];rfl,M_⟩
theorem qZ(A:Option Addr)(n c:Nat)(ls:List (List UInt8))(own:ByteArray)(T:Nat)(w:World)(hr:Rd A n 1 (aF ls) w)(hn:n<=1000000)(hl:∀x∈ls,x.length<=8000)(ho:own.size<=8000)(hT:w.cell? ⟨T,0,none⟩=some (.string own))(Qs:T<w.heap.size):Calls Tryz.prog 81 #[.slice A n c,.func (.func 234) #[] #[.pointer (some ⟨T,0,none⟩)]] w λe w'=>e=.returned (.bool (xL ls own))/\Below w.heap.size w w':=by
 have k1:=xe A n c ls own T w hr hn hl ho hT Qs;have K1:=ah k1;clear k1;go_enter Tryz.func81,Tryz.ntmps81
 go_wp2_with fail
 refine K1.out.mono ?_;rintro e w1 ⟨i,rfl,hi,M8⟩;have HI:=ah hi;clear hi;go_wp2;go_ret;exact⟨by rw[<-HI.out];rfl,M8⟩
def jr(req rep:List aU)(now:Int):Bool:=
 bif(c_ req [105,102,45,110,111,110,101,45,109,97,116,99,104]).1==[42]then true
 else bif(c_ req [105,102,45,110,111,110,101,45,109,97,116,99,104]).2 then
  xL (qy (c_ req [105,102,45,110,111,110,101,45,109,97,116,99,104]).1).1 ⟨(c_ rep [101,116,97,103]).1.toArray⟩
 else(wN req [105,102,45,109,111,100,105,102,105,101,100,45,115,105,110,99,101] now).2&&(wN rep [108,97,115,116,45,109,111,100,105,102,105,101,100] now).2&&decide ((wN rep [108,97,115,116,45,109,111,100,105,102,105,101,100] now).1<=(wN req [105,102,45,109,111,100,105,102,105,101,100,45,115,105,110,99,101] now).1)
theorem AC(s:List UInt8)(h:s.length<=8000):(qy s).1.length<=1000000/\∀x∈(qy s).1,x.length<=8000:=by
 have OG:=ci 44 s;have hcn:(ax 44 s).1.length<=64:=vq s;have he:qy s=bif(ax 44 s).2==0&&(!(ax 44 s).1.isEmpty&&(ax 44 s).1.all iP)then((ax 44 s).1,0)else([],4):=rfl;rw[he]
 cases(ax 44 s).2==0&&(!(ax 44 s).1.isEmpty&&(ax 44 s).1.all iP)
 ·exact⟨by simp,by simp⟩
 ·refine⟨by show(ax 44 s).1.length<=1000000;omega,λx hx=>?_⟩;have:=cG (show x∈(ax 44 s).1 from hx);omega
theorem BG(A B:Option Addr)(n c m d:Nat)(st mi:Int)(re bo:ByteArray)(xs ys:List aU)(now:Int)(w:World)(hE:d9 w)(hr:Rd A n 2 (aJ xs) w)(hq:Rd B m 2 (aJ ys) w)(hn:n<=100)(hm:m<=100)(hs:aE xs<=7000)(hsq:aE ys<=7000):Calls Tryz.prog 171 #[.slice A n c,.agg #[.int .i64 st,.string re,.int .i64 mi,.slice B m d,.string bo],.int .i64 now] w λe w'=>e=.returned (.bool (jr xs ys now))/\Below w.heap.size w w':=by
 have QV:=hr.fld;have hyn:=hq.fld;obtain⟨W0,Nb⟩:=bg w (.cells #[.int .i64 st,.string re,.int .i64 mi,.slice B m d,.string bo] 41);have Nm:=bm Nb;have hV0:W0.cell? ⟨w.heap.size,3,none⟩=some (.slice B m d):=by rw[<-Nb];exact cK w _ _ _ 3
 have N_:W0.heap.size=w.heap.size+1:=by rw[<-Nb];simp
 have g1:=λ(name:ByteArray)(h:name.size<=1000000)W(hb:Below w.heap.size w W)=>iN A n c xs name W (hr.below hb) (by omega) (by omega) h
 have g2:=λ(name:ByteArray)(h:name.size<=1000000)W(hb:Below w.heap.size w W)=>iN B m d ys name W (hq.below hb) (by omega) (by omega) h
 have m1:=λ(name:ByteArray)(h:name.size<=1000000)W(hb:Below w.heap.size w W)=>sZ A n c xs name now W (hE.below hb) (hr.below hb) (by omega) (by omega) h
 have m2:=λ(name:ByteArray)(h:name.size<=1000000)W(hb:Below w.heap.size w W)=>sZ B m d ys name now W (hE.below hb) (hq.below hb) (by omega) (by omega) h
 have b1:=nt xs [105,102,45,110,111,110,101,45,109,97,116,99,104];have b2:=nt ys [101,116,97,103];have G1:=ah (g1 ⟨#[105,102,45,110,111,110,101,45,109,97,116,99,104]⟩ (by decide));have G2:=ah (g2 ⟨#[101,116,97,103]⟩ (by decide));have M1:=ah (m1 ⟨#[105,102,45,109,111,100,105,102,105,101,100,45,115,105,110,99,101]⟩ (by decide));have M2:=ah (m2 GB (by decide));clear g1 g2 m1 m2 hr hq hE;have e0:=λ(s:List UInt8)(h:s.length<=8000)=>AC s h
 unfold jr;simp only at G1 G2 M1 M2
 generalize c_ ys [101,116,97,103]=own at*;generalize c_ xs [105,102,45,110,111,110,101,45,109,97,116,99,104]=non at*;generalize wN xs [105,102,45,109,111,100,105,102,105,101,100,45,115,105,110,99,101] now=gP at*;generalize wN ys [108,97,115,116,45,109,111,100,105,102,105,101,100] now=last at*;obtain⟨ov,oi⟩:=own;obtain⟨nv,ni⟩:=non;obtain⟨t1,i1⟩:=gP;obtain⟨t2,i2⟩:=last;unfold ux at G1 G2;simp only at G1 G2 M1 M2 b1 b2 ⊢
 have YG:nv.length<=8000:=by omega
 have PN:ov.length<=8000:=by omega
 have k3:=λW=>Eg ⟨nv.toArray⟩ W (by rw[aY];exact YG)
 simp only at k3
 have e1:=e0 nv YG;clear e0 b1 b2 YG QV hyn hn hm hs hsq;have e2:(⟨nv.toArray⟩:ByteArray).toList=nv:=by rw[dY]
 obtain⟨Nl,Tv,K3,E1⟩:=bK Nb N_ k3 e1;obtain⟨ZZ,Ou,HV0⟩:=bu PN Nm hV0;clear Nb N_ k3 e1 PN Nm hV0
 cases Nd:(nv==[42])
 ·cases ni
  ·go_enter Tryz.func171,Tryz.ntmps171
   go_wp2_with fail
   rw[Nl.out];refine(G1.out _ Ou.out).mono ?_;rintro e w1 ⟨rfl,M8⟩;have Ni:=Ou.out.trans (M8.mono Ou.out.size);have Rz:=(M8.cell (p:=⟨w.heap.size,3,none⟩) (by have:=Tv.out;show w.heap.size<W0.heap.size;omega)).trans HV0.out;go_wp2_with fail
   refine(M1.out _ Ni).mono ?_;rintro e w2 ⟨rfl,M9⟩;have Nk:=bt Ni M9;have PF:=(M9.cell (p:=⟨w.heap.size,3,none⟩) (by have:=Tv.out;have:=M8.size;show w.heap.size<w1.heap.size;omega)).trans Rz;clear Rz;go_wp2_with fail
   refine(M2.out _ Nk).mono ?_;rintro e w3 ⟨rfl,Na⟩;have Nu:=bt Nk Na;clear PF Na Nk M9 Ni M8 K3 G2
   cases i1<;>cases i2
   all_goals
    go_wp2;go_ret;exact⟨rfl,Nu⟩
  ·go_enter Tryz.func171,Tryz.ntmps171
   go_wp2_with fail
   rw[Nl.out];refine(G1.out _ Ou.out).mono ?_;rintro e w1 ⟨rfl,M8⟩;have Ni:=Ou.out.trans (M8.mono Ou.out.size);have Rz:=(M8.cell (p:=⟨w.heap.size,3,none⟩) (by have:=Tv.out;show w.heap.size<W0.heap.size;omega)).trans HV0.out;go_wp2_with fail
   refine(G2.out _ Ni).mono ?_;rintro e w2 ⟨rfl,M9⟩;have Nk:=bt Ni M9;clear Rz M1 M2 G1 G2;go_wp2_with fail
   refine(K3.out _).mono ?_;rintro e w3 ⟨a3,c3,rfl,NN,Na⟩;have N5:=(aO w2.heap.size w2).alloc (aw _) (.cells #[.string ⟨ov.toArray⟩] 9);have hT:=cK w2 #[.string ⟨ov.toArray⟩] 9 (0,0) 0;generalize hX:w2.alloc (.cells #[.string ⟨ov.toArray⟩] 9)=X at hT N5 NN Na;have hXs:X.heap.size=w2.heap.size+1:=by rw[<-hX];simp
   have hT3:w3.cell? ⟨w2.heap.size,0,none⟩=some (.string ⟨ov.toArray⟩):=(Na.cell (p:=⟨w2.heap.size,0,none⟩) (by show w2.heap.size<X.heap.size;omega)).trans hT;have k4:=qZ a3 _ c3 (qy nv).1 ⟨ov.toArray⟩ w2.heap.size w3 NN.rd.2 E1.out.1 E1.out.2 (by rw[aY];exact ZZ.out) hT3 (by have:=Na.size;omega);have K4:=ah k4;have Nu:=bt Nk (N5.trans (Na.mono (by omega)));clear k4 hT3 hT NN hXs hX N5 Na Nk Ni M8 M9 K3;go_wp2_with fail
   refine K4.out.mono ?_;rintro e w4 ⟨rfl,Nf⟩;go_wp2;go_ret;exact⟨rfl,bt Nu Nf⟩
 ·go_enter Tryz.func171,Tryz.ntmps171
  go_wp2_with fail
  rw[Nl.out];refine(G1.out _ Ou.out).mono ?_;rintro e w1 ⟨rfl,M8⟩;have Ni:=Ou.out.trans (M8.mono Ou.out.size);clear M1 M2 G1 G2 K3;go_wp2;go_ret;exact⟨rfl,Ni⟩
theorem GX(B:Nat){w:World}{v:Value}{fs:List aU}(Nj:aM B v fs w)(hB:B<=w.heap.size){A:Option Addr}{n c:Nat}{ys:List aU}(hr:Rd A n 2 (aJ ys) w)(hn:fs.length+n<=1000000000)(ty:TypeId):∃v' w1,(Builtin.append_ #[36,36] ty #[v,.slice A n c]).run Tryz.prog w=.ok v' w1/\aM B v' (fs++ys) w1/\Below B w w1/\pD w w1 v v':=by
 obtain rfl:=hr.fld;obtain⟨i0,hi,N_,NZ,N6⟩:=info_parts Jm;by_cases h0:A=none
 ·subst h0
  have hy:ys.length=0:=by
   rcases mw ys.length with h|h
   ·exact h
   ·obtain⟨b,o',e,_⟩:=hr.2 h;cases e
  have RH:ys=[]:=mz hy;subst RH;refine⟨v,w,jp w B _ _ 70 i0 2 c Tryz.underlying36 hi v _ _ Nj,by rw[e9];exact Nj,aO _ _,⟨⟨rfl,rfl,rfl,aw _,λ_ _ _=>rfl⟩,Or.inl rfl⟩⟩
 ·obtain⟨ad,rfl⟩:=Option.ne_none_iff_exists'.1 h0
  obtain⟨v',w',NQ,h2,h3,_,h5⟩:=run_append_own_at (P:=Tryz.prog) w B 36 ty 70 i0 (.agg #[.string ByteArray.empty,.string ByteArray.empty]) 2 32 Tryz.underlying36 hi N_ NZ N6 rfl (by decide) v fs.length (aJ fs) Nj ad ys.length c (aJ ys) (by rw[eI]) (by
   intro j u hj;have Qd:j<ys.length*2:=by have:=(mj.1 hj).1;rwa [eI]at this
   obtain⟨b,o',e,_,hc⟩:=hr.2 (by omega)
   cases e
   have e2:(⟨b,o',none⟩:Addr).add j=⟨b,o'+j,none⟩:=by unfold Addr.add;split<;>simp_all
   rw[e2];exact hc j u hj) (pY ys) (by unfold maxLen;omega) (by omega) hB
  refine⟨v',w',NQ,?_,(aO B w).grown h3 hB (λk hk=>(World.ownsRow.lt Nj k hk).1),⟨h3,?_⟩⟩
  ·unfold aM;rw[bP,vU];exact h2
  ·rcases h5 with h|h
   ·exact Or.inl h
   ·refine Or.inr λg hg=>?_
    rw[h]at hg;have:=lv hg;omega
theorem FL{ops:Array Oper}{o:Oper}{a:Act}{K:Act->World->Prop}{Q:Exit->Act->World->Prop}{G:Prop}(B:Nat)(s x:Operand){v:Value}{A:Option Addr}{n c:Nat}{fs ys:List aU}{w:World}(Ot:o.guard=none)(ho:o.op=.call { callee:=.builtin .append,args:=#[s,x],argTypes:=#[36,36] })(hs:a.eval s=v)(hx:a.eval x=.slice A n c)(hl:aM B v fs w)(hX:Rd A n 2 (aJ ys) w)(hB:B<=w.heap.size)(hn:fs.length+n<=1000000000)(hK:∀v' w1,aM B v' (fs++ys) w1->Below B w w1->K (a.put o.dst v') w1):if Region.wanted o (yielded ops a.tmps)=true then Oper.wp Tryz.prog o a w K Q else G:=by rw[if_pos (by simp[Region.wanted,Ot])];obtain⟨v',w1,NQ,h1,h2,h3⟩:=GX B (c:=c) hl hB hX hn o.type;unfold Oper.wp execOp;simp only[ho,resolve,invoke,builtin,Sem.run_bind,Sem.run_pure,Result.andThen_ok,List.map_toArray,bw,List.map_nil,hs,hx,NQ];exact hK v' w1 h1 h2
theorem zE(n:Int):(iI n).data.toList.length<=21:=by
 have h1:=ma n;have h2:=lP n;have e:Lib.itoa (le n)=(iI n).data.toList:=by unfold Lib.itoa iI;rw[if_neg (by omega)]
 rw[<-e];exact mT _ (by omega) (by omega)
theorem JZ{B n c:Nat}{a:Option Addr}{fs:List aU}{w:World}(h:aM B (.slice a fs.length c) fs w)(hn:fs.length=n):aM B (.slice a n c) fs w:=by subst hn;exact h
theorem LX(w:World)(a b:List UInt8)(T:TypeId):Rd (some ⟨w.heap.size,0,none⟩) 1 2 (aJ [(a,b)]) (w.alloc (.cells #[.string ⟨a.toArray⟩,.string ⟨b.toArray⟩] T)):=by
 refine⟨rfl,λ_=>⟨w.heap.size,0,rfl,by simp,λj u hu=>?_⟩⟩;rw[iq,cK]
 match j,hu with
 |0,hu=>exact hu
 |1,hu=>exact hu
 |j+2,hu=>simp[aJ,ss]at hu
theorem xm(w:World)(p:ByteArray):Rd (some ⟨w.heap.size,0,none⟩) 1 2 (aJ [(oT,p.data.toList)]) (w.alloc (.cells #[.string vt,.string p] 70)):=LX w oT p.data.toList _
def RL(X:Nat)(k:bY)(w:World)(an rp:Array Value)(W:World):Prop:=W.heap[w.heap.size]?=some (.cells an 207 (0,0))/\W.heap[w.heap.size+1]?=some (.cells rp 41 (0,0))/\aP X k W/\Below w.heap.size w W
section
variable {X:Nat}{k:bY}{w W W':World}{an rp:Array Value}
theorem RL.below(h:RL X k w an rp W)(hb:Below W.heap.size W W'):RL X k w an rp W':=⟨(hb.block _ (ae h.1)).trans h.1,(hb.block _ (ae h.2.1)).trans h.2.1,h.2.2.1.below hb,bt h.2.2.2 hb⟩
theorem RL.drew(h:RL X k w an rp W):RL X k w an rp W.drew:=h.below (aO _ _).drew
theorem RL.near{B:Nat}(h:RL X k w an rp W)(hX:X<w.heap.size)(hb:Below B W W')(hB:w.heap.size+2<=B):RL X k w an rp W':=⟨(hb.block _ (by omega)).trans h.1,(hb.block _ (by omega)).trans h.2.1,(hb.block _ (by omega)).trans h.2.2.1,h.2.2.2.trans (hb.mono (by omega))⟩
theorem RL.hi(h:RL X k w an rp W):w.heap.size+1<W.heap.size:=ae h.2.1
theorem RL.set(h:RL X k w an rp W)(hX:X<w.heap.size)(j:Nat)(v:Value):RL X k w an (rp.setIfInBounds j v) (W.setCell ⟨w.heap.size+1,j,none⟩ v):=⟨(aG _ _ _ _ _ (by omega)).trans h.1,aj h.2.1,(aG _ _ _ _ _ (by omega)).trans h.2.2.1,h.2.2.2.setCell (by show _<=w.heap.size+1;omega) _⟩
theorem RL.ac(h:RL X k w an rp W)(j:Nat):W.cell? ⟨w.heap.size,j,none⟩=an[j]?:=(ab h.1 j).1
theorem RL.rc(h:RL X k w an rp W)(j:Nat):W.cell? ⟨w.heap.size+1,j,none⟩=rp[j]?/\W.frozen? ⟨w.heap.size+1,j,none⟩=false:=⟨(ab h.2.1 j).1,(ab h.2.1 j).2.1⟩
end
theorem E0(X:Nat)(k:bY)(st mi fr ag lf:Int)(re bo:ByteArray)(A:Option Addr)(c:Nat)(es:Bool)(nv:Option Addr)(nn nc:Nat)(xs req:List aU)(F:Option Addr)(m d:Nat)(w:World)(hC:aP X k w)(hE:d9 w)(hT:dV w)(Sk:k.qm=jR)(Ti:k.qf=.slice F m d)(hq:Rd F m 2 (aJ req) w)(hm:m<=100)(Qo:aE req<=7000)(hr:Rd A xs.length 2 (aJ xs) w)(hn:xs.length<=100)(hs:aE xs<=7000)(Nd:0<=st/\st<=1000000)(PC:re.size<=9000)(O9:bo.size<=1000000)(Ok:∀nm,(co (rh ⟨st,re.data.toList,mi,xs,bo.data.toList⟩ (iI ag).data.toList nm) false).2=0):Calls Tryz.prog 123 #[.pointer (some ⟨X,0,none⟩),.agg (cW (.int .i64 st) (.string re) (.int .i64 mi) (.slice A xs.length c) (.string bo) (.int .i64 fr) (.int .i64 ag) (.int .i64 lf) (.bool es) (.slice nv nn nc))] w λe w'=>e=.returned (.tuple #[])/\aP X { k with resp:=⟨(co (rh ⟨st,re.data.toList,mi,xs,bo.data.toList⟩ (iI ag).data.toList ((st==200)&&jr req xs k.now)) false).1.toArray⟩ } w'/\ap X w w':=by
 have Nc:=ae hC;obtain⟨nm,QM⟩:=aH ((st==200)&&jr req xs k.now);rw[QM];have HNM:=ah QM;clear QM;obtain⟨W0,Nb⟩:=bg w (.cells (cW (.int .i64 st) (.string re) (.int .i64 mi) (.slice A xs.length c) (.string bo) (.int .i64 fr) (.int .i64 ag) (.int .i64 lf) (.bool es) (.slice nv nn nc)) 207);have b0:=bm Nb;have z0:W0.heap.size=w.heap.size+1:=by rw[<-Nb];simp
 have x0:=dU Nb;obtain⟨W1,Ne⟩:=bg W0 (.cells #[.int .i64 st,.string re,.int .i64 mi,.slice A xs.length c,.string bo] 41);have b1:=bm Ne
 have O_:RL X k w (cW (.int .i64 st) (.string re) (.int .i64 mi) (.slice A xs.length c) (.string bo) (.int .i64 fr) (.int .i64 ag) (.int .i64 lf) (.bool es) (.slice nv nn nc)) #[.int .i64 st,.string re,.int .i64 mi,.slice A xs.length c,.string bo] W1:=⟨(b1.block _ (by omega)).trans x0,by rw[<-Ne,<-z0];exact ay W0 _ _ rfl,hC.below (bt b0 b1),bt b0 b1⟩
 unfold cW at Nb;have e0:=aS x0 0;have e1:=aS x0 1;have e2:=aS x0 2;have e3:=aS x0 3;have e4:=aS x0 4;obtain⟨Nl,NC,SP⟩:=bu Nb Ne O_;obtain⟨HE,HT,HQ,HR⟩:=bK hE hT hq hr;obtain⟨Xo,HQM,HQF⟩:=bu Ok Sk Ti;clear Nb Ne O_ hE hT hq hr Ok Sk Ti b0 x0 b1 hC;unfold cW at*;go_enter Tryz.func123,Tryz.ntmps123
 go_upto_region 1 with(fail)
 rw[Nl.out];go_upto_region 2 with(fail)
 rw[NC.out];clear e0 e1 e2 e3 e4 Nl NC;obtain⟨an,han⟩:=aH (#[.int .i64 st,.string re,.int .i64 mi,.slice A xs.length c,.string bo,.int .i64 fr,.int .i64 ag,.int .i64 lf,.bool es,.slice nv nn nc]:Array Value);have O_:=SP.out;rw[han]at O_;have HAN:=ah han;clear han SP;go_cut [] (λwx=>∃l lc,RL X k w an #[.int .i64 st,.string re,.int .i64 mi,.slice l ((eo xs).length+1) lc,.string bo] wx/\aM (w.heap.size+2) (.slice l ((eo xs).length+1) lc) (eo xs++[(oT,(iI ag).data.toList)]) wx)
 case first=>
  have ag6:∀W,RL X k w an #[.int .i64 st,.string re,.int .i64 mi,.slice A xs.length c,.string bo] W->W.cell? ⟨w.heap.size,6,none⟩=some (.int .i64 ag)/\W.cell? ⟨w.heap.size+1,3,none⟩=some (.slice A xs.length c)/\W.frozen? ⟨w.heap.size+1,3,none⟩=false:=λW h=>⟨(h.ac 6).trans (by rw[<-HAN.out];rfl),(h.rc 3).1,(h.rc 3).2⟩
  have kp:=λW(h:RL X k w an #[.int .i64 st,.string re,.int .i64 mi,.slice A xs.length c,.string bo] W)=>Bv A xs.length c xs W (HR.out.below h.2.2.2) (by omega) (by omega)
  have kt:=λW(h:RL X k w an #[.int .i64 st,.string re,.int .i64 mi,.slice A xs.length c,.string bo] W)=>JL ag W (HT.out.on h.2.2.2)
  unfold eT at kp;have St:=ah O_.drew;obtain⟨g6,g3,f3⟩:=ag6 _ O_.drew;obtain⟨KP,KT,AG⟩:=bu kp kt ag6;clear O_ kp kt ag6;generalize iI ag=pa at*;have hple:(eo xs).length+1<=1000000000:=by have h1:=eU (dc xs) [jb,fW,oj];have h2:=eU xs (jf xs);unfold eo;unfold dc at*;omega
  go_region_law (first
   |(go_simp;go_at_call 129;(first|(with_reducible refine(KP.out _ St.out).mono ?_)|(with_reducible refine(KP.out _ Vi.out).mono ?_)|(with_reducible refine(KP.out _ HRA.out).mono ?_));rintro e w2 ⟨a2,c2,rfl,Nz,M9⟩;have V2:=M9.size;(first|(have SS:=am (St.out.below M9);have HOP:=am (aM.base (B':=w.heap.size+2) Nz St.out.hi))|(have SS:=am (Vi.out.below M9);have HOP:=am (aM.base (B':=w.heap.size+2) Nz Vi.out.hi);have HOX:=am (HOP.out.below (aV w2 (.cells #[.string vt,.string pa] 70)));have X9:=am (xm w2 pa);have HRX:=am (SS.out.below (aV w2 (.cells #[.string vt,.string pa] 70))))|(have HRX:=am (HRA.out.below M9);have HOX:=am (aM.base (B':=w.heap.size+2) Nz HRA.out.hi);have X9:=am (HRW.out.below M9);obtain⟨g6,g3,f3⟩:=AG.out _ HRX.out));(first|(obtain⟨g6,g3,f3⟩:=AG.out _ SS.out)|skip))
   |(go_simp;go_at_call 130;(first|(with_reducible refine(KT.out _ St.out).mono ?_)|(with_reducible refine(KT.out _ SS.out).mono ?_));rintro e w3 ⟨rfl,Na⟩;have Qi:=Na.size;(first|(have Vi:=am (St.out.below Na))|(have Vi:=am (SS.out.below Na);have HOX:=am ((HOP.out.below Na).below (aV w3 (.cells #[.string vt,.string pa] 70)));have X9:=am (xm w3 pa);have HRX:=am (Vi.out.below (aV w3 (.cells #[.string vt,.string pa] 70)))));have HRA:=am (Vi.out.below (aV w3 (.cells #[.string vt,.string pa] 70)));have HRW:=am (xm w3 pa);obtain⟨g6,g3,f3⟩:=AG.out _ Vi.out)
   |(refine FL (w.heap.size+2) _ _ rfl rfl rfl rfl HOX.out X9.out HRX.out.hi hple ?_;intro v5 w5 P9 Ns;obtain⟨la,lc,rfl⟩:=P9.shape;have Xq:=HRX.out.near Nc Ns (aw _);obtain⟨g6,g3,f3⟩:=AG.out _ Xq)
   |fail)
  all_goals
   have hz:=Xq.set Nc 3 (.slice la ((eo xs).length+1) lc);simp only[cH,cI,cF]at hz;have hoz:=ownsRow_setCell_below P9 (a:=⟨w.heap.size+1,3,none⟩) (by show w.heap.size+1<_;omega) (.slice la ((eo xs).length+1) lc);obtain⟨HZ,HOZ⟩:=az hz hoz;clear hz hoz Xq P9 Ns;go_wp2_with fail
   go_meet;exact⟨la,lc,HZ.out,JZ HOZ.out (by rw[bP,dM])⟩
 case rest=>
 clear O_;obtain⟨l,lc,N3,On⟩:=hcut;obtain⟨W2,rfl⟩:∃W,W=wc:=⟨_,rfl⟩;go_upto_region 3 with(fail)
 go_cut [33]from 17 to 33 (λs wx=>s=.bool nm/\RL X k w an #[.int .i64 st,.string re,.int .i64 mi,.slice l ((eo xs).length+1) lc,.string bo] wx/\aM (w.heap.size+2) (.slice l ((eo xs).length+1) lc) (eo xs++[(oT,(iI ag).data.toList)]) wx)
 case first=>
  have s0:W2.drew.cell? ⟨w.heap.size+1,0,none⟩=some (.int .i64 st):=(N3.rc 0).1;obtain⟨Pk,NM⟩:=az N3 On
  cases OM:(st==200)
  ·have OJ:=ah OM;clear N3 On;go_region
   all_goals
    go_wp2_with fail
    go_meet;exact⟨by rw[<-HNM.out,OJ.out];rfl,Pk.out.drew,aM.drew NM.out⟩
  ·have OJ:=ah OM;have c9:W2.drew.cell? ⟨X,9,none⟩=some (.slice F m d):=by rw[<-HQF.out];exact(N3.2.2.1.at 9).1
   have c5:W2.drew.cell? ⟨X,5,none⟩=some (.int .i64 k.now):=(N3.2.2.1.at 5).1;have e0:W2.drew.cell? ⟨w.heap.size,0,none⟩=some (.int .i64 st):=(N3.ac 0).trans (by rw[<-HAN.out];rfl);have e1:W2.drew.cell? ⟨w.heap.size,1,none⟩=some (.string re):=(N3.ac 1).trans (by rw[<-HAN.out];rfl);have e2:W2.drew.cell? ⟨w.heap.size,2,none⟩=some (.int .i64 mi):=(N3.ac 2).trans (by rw[<-HAN.out];rfl);have e3:W2.drew.cell? ⟨w.heap.size,3,none⟩=some (.slice A xs.length c):=(N3.ac 3).trans (by rw[<-HAN.out];rfl);have e4:W2.drew.cell? ⟨w.heap.size,4,none⟩=some (.string bo):=(N3.ac 4).trans (by rw[<-HAN.out];rfl);have km:=BG F A m d xs.length c st mi re bo req xs k.now W2.drew (HE.out.below N3.drew.2.2.2) (HQ.out.below N3.drew.2.2.2) (HR.out.below N3.drew.2.2.2) hm hn Qo hs;have KM:=ah km;clear N3 On km;go_still_tail 15,(by kernel_rfl)
   change wpList _ _ _ _ _ W2.drew
   go_wp2_with fail
   refine KM.out.mono ?_;rintro e w3 ⟨rfl,Na⟩;obtain⟨RE,Ob⟩:=az (Pk.out.drew.below Na) (aM.below (aM.drew NM.out) Na);clear Na KM;go_wp2_with fail
   go_meet;exact⟨by rw[<-HNM.out,OJ.out];rfl,RE.out,Ob.out⟩
 case rest=>
 clear N3 On;obtain⟨rfl,Qg,Po⟩:=hcut;obtain⟨W3,rfl⟩:∃W,W=wc:=⟨_,rfl⟩;have O4:(eo xs++[(oT,(iI ag).data.toList)]).length=(eo xs).length+1:=by rw[bP,dM]
 have Oe:(eo xs).length+1<=100000:=by have h1:=eU (dc xs) [jb,fW,oj];have h2:=eU xs (jf xs);unfold eo;unfold dc at*;omega
 have Pb:aE (eo xs++[(oT,(iI ag).data.toList)])<=900000:=by
  have h1:=fK (dc xs) [jb,fW,oj];have h2:=fK xs (jf xs);rw[gj];have:aE [(oT,(iI ag).data.toList)]=3+(iI ag).data.toList.length:=by simp[aE,oT]
  have h3:=zE ag;unfold eo;unfold dc at*;omega
 obtain⟨RE,Ob,ZW⟩:=bu Qg Po O4
 cases nm
 ·have s0:W3.cell? ⟨w.heap.size+1,0,none⟩=some (.int .i64 st):=(Qg.rc 0).1;have s1:W3.cell? ⟨w.heap.size+1,1,none⟩=some (.string re):=(Qg.rc 1).1;have s2:W3.cell? ⟨w.heap.size+1,2,none⟩=some (.int .i64 mi):=(Qg.rc 2).1;have s3:W3.cell? ⟨w.heap.size+1,3,none⟩=some (.slice l ((eo xs).length+1) lc):=(Qg.rc 3).1;have s4:W3.cell? ⟨w.heap.size+1,4,none⟩=some (.string bo):=(Qg.rc 4).1;have kw:=tM X k ⟨st,re.data.toList,mi,eo xs++[(oT,(iI ag).data.toList)],bo.data.toList⟩ l lc W3 Qg.2.2.1 (HT.out.on Qg.2.2.2) (aM.rd Po).2 (by rw[O4];exact Oe) Pb Nd (by simpa using PC) (by simpa using O9) HQM.out (Xo.out false);unfold iv at kw;simp only[O4,bN]at kw;have KW:=ah kw;clear kw Qg Po O4;go_wp2_with fail
  refine KW.out.mono ?_;rintro e w4 ⟨rfl,Xt,Ny⟩;have HF:=ah (aB Xt ((ap.of RE.out.2.2.2 (dF Nc)).trans Ny));clear Xt Ny KW;go_wp2_with fail
  go_end0
  exact⟨rfl,HF.out⟩
 ·have s0:W3.cell? ⟨w.heap.size+1,0,none⟩=some (.int .i64 st):=(Qg.rc 0).1;have s1:W3.cell? ⟨w.heap.size+1,1,none⟩=some (.string re):=(Qg.rc 1).1;have s2:W3.cell? ⟨w.heap.size+1,2,none⟩=some (.int .i64 mi):=(Qg.rc 2).1;have s3:W3.cell? ⟨w.heap.size+1,3,none⟩=some (.slice l ((eo xs).length+1) lc):=(Qg.rc 3).1;have s4:W3.cell? ⟨w.heap.size+1,4,none⟩=some (.string bo):=(Qg.rc 4).1;have f0:=(Qg.rc 0).2;have f1:=(Qg.rc 1).2;have f4:=(Qg.rc 4).2;have S4:=((Qg.set Nc 0 (.int .i64 304)).set Nc 1 (.string DL)).set Nc 4 (.string ⟨#[]⟩)
  have Sw:=ownsRow_setCell_below (ownsRow_setCell_below (ownsRow_setCell_below Po (a:=⟨w.heap.size+1,0,none⟩) (by show w.heap.size+1<_;omega) (.int .i64 304)) (a:=⟨w.heap.size+1,1,none⟩) (by show w.heap.size+1<_;omega) (.string DL)) (a:=⟨w.heap.size+1,4,none⟩) (by show w.heap.size+1<_;omega) (.string ⟨#[]⟩);have kw:=tM X k ⟨304,IW,mi,eo xs++[(oT,(iI ag).data.toList)],[]⟩ l lc _ S4.2.2.1 (HT.out.on S4.2.2.2) (aM.rd Sw).2 (by rw[O4];exact Oe) Pb ⟨by show(0:Int)<=304;decide,by show(304:Int)<=1000000;decide⟩ (by show 12<=9000;decide) (by show 0<=1000000;decide) HQM.out (Xo.out true);unfold iv at kw;simp only[O4]at kw
  obtain⟨W4,Oz⟩:=aH (((W3.setCell ⟨w.heap.size+1,0,none⟩ (.int .i64 304)).setCell ⟨w.heap.size+1,1,none⟩ (.string DL)).setCell ⟨w.heap.size+1,4,none⟩ (.string ⟨#[]⟩));rw[Oz]at kw S4;have g0:W4.cell? ⟨w.heap.size+1,0,none⟩=some (.int .i64 304):=(S4.rc 0).1;have g1:W4.cell? ⟨w.heap.size+1,1,none⟩=some (.string DL):=(S4.rc 1).1;have g2:W4.cell? ⟨w.heap.size+1,2,none⟩=some (.int .i64 mi):=(S4.rc 2).1;have g3:W4.cell? ⟨w.heap.size+1,3,none⟩=some (.slice l ((eo xs).length+1) lc):=(S4.rc 3).1;have g4:W4.cell? ⟨w.heap.size+1,4,none⟩=some (.string ⟨#[]⟩):=(S4.rc 4).1;obtain⟨KW,HR4,Ri⟩:=bu kw S4 Oz;clear kw Qg Po O4 S4 Sw Oz;go_upto_region 5 with(fail)
  rw[Ri.out];go_wp2_with fail
  refine KW.out.mono ?_;rintro e w4 ⟨rfl,Xt,Ny⟩;have HF:=ah (aB Xt ((ap.of HR4.out.2.2.2 (dF Nc)).trans Ny));clear Xt Ny KW;go_wp2_with fail
  go_end0
  exact⟨rfl,HF.out⟩
theorem ap.near{T:Nat}{w a b:World}(h:ap T w a)(hb:Below w.heap.size a b)(hT:T<=w.heap.size):ap T w b:=⟨h.1.trans (hb.mono hT),λi hi Ng=>(hb.block i hi).trans (h.2 i hi Ng)⟩
theorem aP.near{X B:Nat}{k:bY}{a b:World}(h:aP X k a)(hb:Below B a b)(hX:X<B):aP X k b:=(hb.block X hX).trans h
theorem Ew(X:Nat)(k:bY)(L:Option Addr)(n c:Nat)(ls:List (List UInt8))(w:World)(hC:aP X k w)(hk:k.reads=.slice none 0 0)(hR:∀W,ap X w W->Rd L n 1 (aF ls) W)(hn:n<=1000000):Calls Tryz.prog 122 #[.pointer (some ⟨X,0,none⟩),.slice L n c] w λe w'=>∃rv rn rc,e=.returned (.tuple #[])/\aP X { k with reads:=.slice rv rn rc } w'/\ap X w w':=by
 have Nc:=ae hC;obtain rfl:=(hR w (ap.refl X w)).str
 have Td:aP X { k with reads:=.slice none 0 0 } w:=by
  have e:({ k with reads:=.slice none 0 0 }:bY)=k:=by rw[<-hk]
  rw[e];exact hC
 obtain⟨T0,HR⟩:=az Td hR;clear hC hk Td hR;go_enter Tryz.func122,Tryz.ntmps122
 go_wp2_with fail
 go_loopw [8] (λi wr=>∃j:Nat,j<=ls.length/\i=.int .i64 j/\∃rv rc,∃rs:List (List UInt8),rs.length<=j/\Hid (aP X { k with reads:=.slice rv rs.length rc } wr)/\Hid (aQ w.heap.size (.slice rv rs.length rc) rs wr)/\Hid (ap X w wr)) (λi _=>ls.length-(intOf i).toNat)
 case atStart=>exact⟨0,a_ _,rfl,none,0,[],aw _,T0,am (aQ.nil _ _),am (ap.refl X w)⟩
 case round=>
  clear T0;obtain⟨j,hj,rfl,rv,rc,rs,Tm,HC,HO,HB⟩:=hrel;by_cases Qd:j<ls.length
  ·obtain⟨b,o,rfl,hl,hc⟩:=(HR.out wr HB.out).2 (by omega);have c0:=hc j (.string ⟨(ls[j]).toArray⟩) (by simp[aF,Qd]);generalize ls[j]=y at*;have c4:wr.cell? ⟨X,4,none⟩=some (.slice rv rs.length rc):=(HC.out.at 4).1;have z4:=(HC.out.at 4).2;have kc:=lU HO.out (by omega) y;have ND:=HB.out.size;have KC:=ah kc;clear kc hc;have j1:(j:Int)<(ls.length:Int):=by omega
   have j2:IntKind.i64.wrap ((j:Int)+1)=(j:Int)+1:=IntWalk.i64_in _ (by omega)
   cases PO:rs.contains y
   ·rw[PO]at KC;clear PO;go_wp2_with (first|(go_at_call 42;(with_reducible refine KC.out.mono ?_);rintro e w2 ⟨rfl,rfl⟩)|(at_builtin;refine gq w.heap.size y HO.out ND (by omega) rfl _ _ rfl rfl rfl ?_))
    intro v' w3 hO hb _;obtain⟨ga,gc,rfl⟩:=hO.shape;have Rc:=HC.out.near hb Nc;have Nu:=HB.out.near hb (dF Nc);have e4:w3.cell? ⟨X,4,none⟩=some (.slice rv rs.length rc):=(Rc.at 4).1;have z5:=(Rc.at 4).2;obtain⟨Pv,Pz,Pj⟩:=bu (Rc.reads (.slice ga (rs++[y]).length gc)) (Nu.set 4 (.slice ga (rs++[y]).length gc)) (bi hO (ap.setCell X 4 w3 (.slice ga (rs++[y]).length gc)) Nc);have RD:(rs++[y]).length<=j+1:=by rw[bP,dM];omega
    have hrl2:rs.length+1=(rs++[y]).length:=by rw[bP,dM]
    generalize rs++[y]=rs2 at*;clear hO hb Rc Nu HC HB HO KC c4 z4;go_wp2_with fail
    go_roundw
    case rel=>exact⟨j+1,by omega,by simp,ga,gc,rs2,RD,Pv,Pj,Pz⟩
    case measure=>simp[intOf];omega
   ·rw[PO]at KC;clear PO;go_wp2_with (go_at_call 42;(with_reducible refine KC.out.mono ?_);rintro e w2 ⟨rfl,rfl⟩)
    go_roundw
    case rel=>exact⟨j+1,by omega,by simp,rv,rc,rs,by omega,HC,HO,HB⟩
    case measure=>simp[intOf];omega
  ·obtain rfl:j=ls.length:=by omega
   go_wp2_with fail
   go_end0
   exact⟨rv,rs.length,rc,rfl,HC.out,HB.out⟩
theorem Cm{T K:Nat}{w a:World}(h:ap T w a)(hK:w.heap.size<=K)(hT:T<=w.heap.size)(v0 v1:Value):ap T w ((a.setCell ⟨K,0,none⟩ v0).setCell ⟨K,1,none⟩ v1):=h.near (((aO w.heap.size a).setCell (p:=⟨K,0,none⟩) hK v0).setCell (p:=⟨K,1,none⟩) hK v1) hT
theorem LR(X:Nat)(k:bY)(O o m d:Nat)(b ob:ByteArray)(ok:Bool)(w:World)(hC:aP X k w)(hl:k.l=.slice (some ⟨O,o,none⟩) m d)(hm:1<=m/\m<=1000000)(h0:k.asked=.slice none 0 0)(hu:k.used=0)(hO:O<w.heap.size)(Ng:O≠X)(Ol:w.cell? ⟨O,o,none⟩=some (.string ob))(M8:w.cell? ⟨O,o+1,none⟩=some (.bool ok)):Calls Tryz.prog 136 #[.pointer (some ⟨X,0,none⟩),.string b] w λe w'=>e=.returned (.agg #[.string ob,.bool ok])/\ap X w w'/\∃a c,aP X { k with asked:=.slice a 1 c,used:=1 } w':=by
 have Nc:=ae hC;obtain⟨W0,Nb⟩:=bg w Db;have b0:=bm Nb;have x0:=dU Nb;have z0:=b0.size;have Td:=hC.below b0;have c2:W0.cell? ⟨X,2,none⟩=some (.slice none 0 0):=by rw[<-h0];exact(Td.at 2).1
 obtain⟨T0,X0,Nl,HU,HL⟩:=gB Td x0 Nb hu hl;obtain⟨Ou,Wq,OW⟩:=bu (ap.of b0 (dF Nc)) Ol M8;clear hC Nb x0 Td h0 hu hl b0 Ol M8;have obtain_y:∃y:List UInt8,b=⟨y.toArray⟩:=⟨b.data.toList,by simp⟩;obtain⟨y,rfl⟩:=obtain_y;go_enter Tryz.func136,Tryz.ntmps136
 go_upto_region 1 with(fail)
 rw[Nl.out];have hlt0:w.heap.size<W0.heap.size:=ae X0.out;go_wp2_with (at_builtin;refine gq W0.heap.size y (aQ.nil _ _) (aw _) (by decide) rfl _ _ rfl rfl rfl ?_)
 intro v' w3 hO hb _;obtain⟨ga,gc,rfl⟩:=hO.shape;have Rc:=T0.out.near hb (by omega);have Nu:=Ou.out.near (hb.mono z0) (dF Nc);have x3:=(hb.block _ hlt0).trans X0.out;have e2:w3.cell? ⟨X,2,none⟩=some (.slice none 0 0):=(hb.cell (p:=⟨X,2,none⟩) (by show X<_;omega)).trans c2;have z2:=(Rc.at 2).2;have Xt:=Rc.asked (.slice ga 1 gc);have Ny:=Nu.set 2 (.slice ga 1 gc);have x4:=(aG w3 X 2 w.heap.size (.slice ga 1 gc) (by omega)).trans x3;obtain⟨Pv,Pz,X4⟩:=bu Xt Ny x4;clear hO hb Rc Nu x3 Xt Ny x4 T0 Ou X0 Nl c2;go_upto_region 2 with(fail)
 generalize w3.setCell ⟨X,2,none⟩ (.slice ga 1 gc)=W4 at*;have c3:W4.cell? ⟨X,3,none⟩=some (.int .i64 0):=by rw[<-HU.out];exact(Pv.out.at 3).1
 have c17:W4.cell? ⟨X,17,none⟩=some (.slice (some ⟨O,o,none⟩) m d):=by rw[<-HL.out];exact(Pv.out.at 17).1
 have d3:W4.drew.cell? ⟨X,3,none⟩=some (.int .i64 0):=c3;have d17:W4.drew.cell? ⟨X,17,none⟩=some (.slice (some ⟨O,o,none⟩) m d):=c17;have t1:((0:Int)==(m:Int))=false:=by simp;omega
 have f3:W4.drew.frozen? ⟨X,3,none⟩=false:=(Pv.out.at 3).2;go_upto_if 27 with(go_quiet (fail))
 obtain⟨W5,OH⟩:=aH (W4.drewN nq);have P6:Below W4.heap.size W4 W5:=by rw[<-OH];exact Go.below_drewN (aO _ W4) nq
 rw[OH];have Uq:=Pv.out.below P6;have Oh:=Pz.out.belowX P6 Nc;have x5:=(P6.block _ (ae X4.out)).trans X4.out;have e3:W5.cell? ⟨X,3,none⟩=some (.int .i64 0):=by rw[<-HU.out];exact(Uq.at 3).1
 have z3:=(Uq.at 3).2;have Ue:=Uq.used 1;have Ow:=Oh.set 3 (.int .i64 1);have x6:=(aG W5 X 3 w.heap.size (.int .i64 1) (by omega)).trans x5;obtain⟨Rp,Qu,X6⟩:=bu Ue Ow x6;clear P6 Uq Oh x5 Ue Ow x6 OH Pv Pz X4 c3 c17 d3 d17 f3;go_upto_region 5 with(fail)
 generalize W5.setCell ⟨X,3,none⟩ (.int .i64 1)=W6 at*;have c3:W6.drew.cell? ⟨X,3,none⟩=some (.int .i64 1):=(Rp.out.at 3).1;have c17:W6.drew.cell? ⟨X,17,none⟩=some (.slice (some ⟨O,o,none⟩) m d):=by rw[<-HL.out];exact(Rp.out.at 17).1
 have o0:W6.drew.cell? ⟨O,o,none⟩=some (.string ob):=(Qu.out.cell (b:=O) o hO Ng).trans Wq.out;have o1:W6.drew.cell? ⟨O,o+1,none⟩=some (.bool ok):=(Qu.out.cell (b:=O) (o+1) hO Ng).trans OW.out;have n0:=aS X6.out 0;have n1:=aS X6.out 1;have f0:W6.drew.frozen? ⟨w.heap.size,0,none⟩=false:=(ab X6.out 0).2.1;have f1:W6.drew.frozen? ⟨w.heap.size,1,none⟩=false:=(ab X6.out 1).2.1;have n2:W6.cell? ⟨w.heap.size,0,none⟩=some (.string ⟨#[]⟩):=n0;have n3:W6.cell? ⟨w.heap.size,1,none⟩=some (.bool false):=n1;have f2:W6.frozen? ⟨w.heap.size,0,none⟩=false:=f0;have f3:W6.frozen? ⟨w.heap.size,1,none⟩=false:=f1;have t2:(0:Int)<(m:Int):=by omega
 have t3:0<m:=by omega
 have t4:IntKind.i64.wrap 0=0:=by decide
 go_still_tail 12,(by kernel_rfl)
 change wpList _ _ _ _ _ W6.drew
 go_wp2_with fail
 have HF:=ah (aB (Rp.out.near (((aO (X+1) W6).setCell (p:=⟨w.heap.size,0,none⟩) (by show X+1<=w.heap.size;omega) (.string ob)).setCell (p:=⟨w.heap.size,1,none⟩) (by show X+1<=w.heap.size;omega) (.bool ok)) (Nat.lt_succ_self X)) (Cm Qu.out (aw _) (dF Nc) (.string ob) (.bool ok)));have h7:=aj (j:=1) (v:=.bool ok) (aj (j:=0) (v:=.string ob) X6.out);simp only[cH,cI,cF]at h7;have g0:=(ab h7 0).1;have g1:=(ab h7 1).1;simp only[cT,cS,cv]at g0 g1;refine bodyPost_ret_by (v:=.agg #[.string ob,.bool ok]) ?_ rfl ?_
 ·simp[results,Tryz.results136,go_sem,g0,g1]
 ·exact⟨rfl,HF.out.2.drew,ga,gc,HF.out.1.below (aO _ _).drew⟩
theorem GC(P:Nat)(v:Bool)(w:World)(h:w.cell? ⟨P,2,none⟩=some (.bool v)):Calls Tryz.prog 223 #[.pointer (some ⟨P,0,none⟩)] w λe w'=>e=.returned (.bool v)/\w=w':=by
 go_enter Tryz.func223,Tryz.ntmps223
 go_wp2_with fail
 go_ret;exact⟨rfl,rfl⟩
theorem Jq(B T:Nat)(w:World)(h:w.cell? ⟨B,0,none⟩=some (.bool false)):Calls Tryz.prog 224 #[.pointer (some ⟨B,0,none⟩),.pointer (some ⟨T,0,none⟩)] w λe w'=>e=.returned (.bool false)/\w=w':=by
 go_enter Tryz.func224,Tryz.ntmps224
 go_wp2_with fail
 go_ret;exact⟨rfl,rfl⟩
theorem H8(B:Nat)(v:Bool)(w:World)(h:w.cell? ⟨B,0,none⟩=some (.bool v)):Calls Tryz.prog 226 #[.pointer (some ⟨B,0,none⟩)] w λe w'=>e=.returned (.bool v)/\w=w':=by
 go_enter Tryz.func226,Tryz.ntmps226
 go_wp2_with fail
 go_ret;exact⟨rfl,rfl⟩
theorem IY(T K:Nat)(st:Int)(w:World)(h:w.cell? ⟨T,0,none⟩=some (.pointer (some ⟨K,0,none⟩)))(h2:w.cell? ⟨K,23,none⟩=some (.int .i64 st)):Calls Tryz.prog 227 #[.pointer (some ⟨T,0,none⟩)] w λe w'=>e=.returned (.bool (st==304))/\w=w':=by
 go_enter Tryz.func227,Tryz.ntmps227
 go_wp2_with fail
 go_ret;exact⟨rfl,rfl⟩
theorem GS(w:World):Calls Tryz.prog 228 #[] w λe w'=>e=.returned (.bool true)/\w=w':=by
 go_enter Tryz.func228,Tryz.ntmps228
 go_wp2_with fail
 go_ret;exact⟨rfl,rfl⟩
def Gf:List UInt8:=[71,69,84]
def Av:List UInt8:=[112,114,105,118,97,116,101]
def Gt:List UInt8:=[112,117,98,108,105,99]
def Al:List UInt8:=[109,117,115,116,45,114,101,118,97,108,105,100,97,116,101]
def zO:List UInt8:=[97,117,116,104,111,114,105,122,97,116,105,111,110]
def vN:List UInt8:=[101,116,97,103]
def vX:List UInt8:=[108,97,115,116,45,109,111,100,105,102,105,101,100]
def ot(l:List da)(names:List (List UInt8)):Bool:=names.any λn=>(ml l n).isSome
def xo(xs:List aU)(got:Int):Bool:=(mX ⟨(c_ xs vN).1.toArray⟩).right||((kJ (c_ xs vX).1 got).2==0)
def Fz(st:Int):Bool:=st==200||st==301||st==404||st==410
def xO(xs:List aU):List da:=bD (af xs mJ)
def Dl(qs xs:List aU)(dev:List UInt8):Bool:=!ot (xO qs) [noStore]&&!ot (xO xs) [noStore,Av]&&!(oS xs dev).noStore
def Dj(qs xs:List aU)(dev:List UInt8):Bool:=!(c_ qs zO).2||ot (xO xs) [Gt,oZ,Al]||(oS xs dev).hasAge
def xS(xs:List aU)(got:Int)(dev:List UInt8):Bool:=decide (0<zX xs got dev)||xo xs got
def Mk(m:List UInt8)(qs:List aU)(st:Int)(xs:List aU)(got:Int)(dev:List UInt8):Bool:=(m==Gf)&&(Fz st&&(Dl qs xs dev&&((bz xs).isSome&&(Dj qs xs dev&&xS xs got dev))))
theorem xI(p1:Value)(q:List UInt8->Bool)(A:Option Addr)(n c:Nat)(ls:List (List UInt8))(w:World)(hr:Rd A n 1 (aF ls) w)(hn:n<=1000000)(hc:∀l∈ls,∀W,Below w.heap.size w W->Calls Tryz.prog 365 #[.string ⟨l.toArray⟩,p1] W λe W'=>e=.returned (.bool (q l))/\Below W.heap.size W W'):Calls Tryz.prog 139 #[.slice A n c,.func (.func 365) #[] #[p1]] w (DA q ls w):=by
 obtain rfl:=hr.str;have hB:=aO w.heap.size w;obtain⟨HR,HC⟩:=az hr hc;clear hr hc;go_enter Tryz.func139,Tryz.ntmps139
 go_wp2;go_loopw [8] (λi wr=>∃k:Nat,k<=ls.length/\i=.int .i64 k/\Hid ((ls.take k).any q=false)/\Below w.heap.size w wr) (λi _=>ls.length-(intOf i).toNat)
 case atStart=>exact⟨0,a_ _,rfl,am rfl,hB⟩
 case round=>
  clear hB;obtain⟨k,hk,rfl,HA,M_⟩:=hrel;by_cases Nc:k<ls.length
  ·obtain⟨b,o,rfl,hl,c1⟩:=(HR.out.below M_).str_at (k:=k) Nc;have k1:=HC.out ls[k] (bQ _) wr M_
   have NB:q ls[k]=true->Hid (decide ((0:Int)<=(k:Int))=ls.any q):=by
    intro h;refine am ?_;have:ls.any q=true:=by rw[List.any_eq_true];exact⟨ls[k],bQ _,h⟩
    rw[this];simp
   have NA:q ls[k]=false->Hid ((ls.take (k+1)).any q=false):=by intro h;refine am ?_;rw[gL Nc,List.any_append,HA.out];simp[h]
   generalize ls[k]=p at*;obtain⟨OC,OS⟩:=az NB NA;clear NB NA HA
   cases hq:q p
   ·rw[hq]at k1;have hf:=OS.out hq;have K1:=ah k1;clear k1 hq;go_wp2_with fail
    refine K1.out.mono ?_;rintro e w1 ⟨rfl,M8⟩;go_wp2;go_roundw
    case rel=>exact⟨k+1,by omega,by go_num,hf,bt M_ M8⟩
    case measure=>simp[intOf];omega
   ·rw[hq]at k1;have hf:=OC.out hq;have K1:=ah k1;clear k1 hq;go_wp2_with fail
    refine K1.out.mono ?_;rintro e w1 ⟨rfl,M8⟩;go_wp2;go_ret;exact⟨k,rfl,hf.out,bt M_ M8⟩
  ·have NI:k=ls.length:=by omega
   subst NI;have ha:=HA.out;rw[eM]at ha;have VM:=ah ha;clear ha HA;go_wp2;go_ret;exact⟨-1,rfl,by rw[VM.out];rfl,M_⟩
theorem rg(p1:Value)(q:List UInt8->Bool)(A:Option Addr)(n c:Nat)(ls:List (List UInt8))(w:World)(hr:Rd A n 1 (aF ls) w)(hn:n<=1000000)(hc:∀l∈ls,∀W,Below w.heap.size w W->Calls Tryz.prog 365 #[.string ⟨l.toArray⟩,p1] W λe W'=>e=.returned (.bool (q l))/\Below W.heap.size W W'):Calls Tryz.prog 81 #[.slice A n c,.func (.func 365) #[] #[p1]] w λe w'=>e=.returned (.bool (ls.any q))/\Below w.heap.size w w':=by
 have k1:=xI p1 q A n c ls w hr hn hc;have K1:=ah k1;clear k1 hc;go_enter Tryz.func81,Tryz.ntmps81
 go_wp2_with fail
 refine K1.out.mono ?_;rintro e w1 ⟨i,rfl,hi,M8⟩;have HI:=ah hi;clear hi;go_wp2;go_ret;exact⟨by rw[<-HI.out];rfl,M8⟩
theorem BT(T:Nat)(nm:List UInt8)(A:Option Addr)(n c:Nat)(xs:List da)(w:World)(hT:w.cell? ⟨T,0,none⟩=some (.slice A n c))(hr:Rd A n 4 (cz xs) w)(hn:n<=1000000)(hx:∀d∈xs,d.name.length<=140737488351232)(QM:nm.length<=1000000):Calls Tryz.prog 365 #[.string ⟨nm.toArray⟩,.pointer (some ⟨T,0,none⟩)] w λe w'=>e=.returned (.bool (ml xs nm).isSome)/\Below w.heap.size w w':=by
 have k1:=AE A n c xs ⟨nm.toArray⟩ w hr hn hx (by rw[aY];show nm.length<=_;omega);rw[show(⟨nm.toArray⟩:ByteArray).data.toList=nm from rfl]at k1
 cases hf:ml xs nm with
 |none=>
  rw[hf]at k1;unfold nT at k1;have K1:=ah k1;clear k1 hf hr hx;go_enter Tryz.func365,Tryz.ntmps365
  go_wp2_with fail
  refine K1.out.mono ?_;rintro e w1 ⟨rfl,M8⟩;go_wp2;go_ret;exact⟨rfl,M8.alloc M8.size _⟩
 |some d=>
  rw[hf]at k1;unfold nT at k1;simp only at k1
  have K1:=ah k1;clear k1 hf hr hx;go_enter Tryz.func365,Tryz.ntmps365
  go_wp2_with fail
  refine K1.out.mono ?_;rintro e w1 ⟨rfl,M8⟩;go_wp2;go_ret;exact⟨rfl,M8.alloc M8.size _⟩
theorem Jf(A N:Option Addr)(n c m d:Nat)(xs:List da)(ls:List (List UInt8))(w:World)(hr:Rd A n 4 (cz xs) w)(hn:n<=1000000)(hx:∀d∈xs,d.name.length<=140737488351232)(hN:Rd N m 1 (aF ls) w)(hm:m<=1000000)(hl:∀l∈ls,l.length<=1000000):Calls Tryz.prog 299 #[.slice A n c,.slice N m d] w λe w'=>e=.returned (.bool (ot xs ls))/\Below w.heap.size w w':=by
 obtain⟨W1,Ne⟩:=bg w (.cells #[.slice A n c] 77);have b1:=bm Ne;have z1:w.heap.size<W1.heap.size:=by rw[<-Ne];simp
 have hc:W1.cell? ⟨w.heap.size,0,none⟩=some (.slice A n c):=by rw[<-Ne];exact cK w _ _ _ 0
 have k1:=rg (.pointer (some ⟨w.heap.size,0,none⟩)) (λnm=>(ml xs nm).isSome) N m d ls W1 (hN.below b1) hm (λl ZI W hb=>BT w.heap.size l A n c xs W ((hb.cell (p:=⟨w.heap.size,0,none⟩) z1).trans hc) ((hr.below b1).below hb) hn hx (hl l ZI));have hh:ls.any (λnm=>(ml xs nm).isSome)=ot xs ls:=rfl;rw[hh]at k1;obtain⟨NC,K1⟩:=az Ne k1;clear Ne k1 hc hr hN hx hl hh;go_enter Tryz.func299,Tryz.ntmps299
 go_wp2_with fail
 rw[NC.out];refine K1.out.mono ?_;rintro e w2 ⟨rfl,M9⟩;go_wp2;go_ret;exact⟨rfl,bt b1 M9⟩
theorem FI(st mi asked got:Int)(re bo:ByteArray)(A V:Option Addr)(n c m d:Nat)(xs:List aU)(w:World)(hE:d9 w)(hr:Rd A n 2 (aJ xs) w)(hn:n<=100)(hs:aE xs<=7500):Calls Tryz.prog 303 #[dI st re mi A n c bo asked got V m d] w λe w'=>e=.returned (.bool (xo xs got))/\Below w.heap.size w w':=by
 obtain⟨W1,Ne⟩:=bg w (.cells #[.int .i64 st,.string re,.int .i64 mi,.slice A n c,.string bo,.int .i64 asked,.int .i64 got,.slice V m d] 105);have b1:=bm Ne;have x1:ms w.heap.size st re mi A n c bo asked got V m d W1:=by rw[<-Ne];exact ay w _ _ rfl
 have O4:=hr.fld;have k1:=iN A n c xs ⟨#[101,116,97,103]⟩ W1 (hr.below b1) (by omega) (by omega) (by decide);rw[show(⟨#[101,116,97,103]⟩:ByteArray).data.toList=vN from rfl]at k1;have k3:=λW(hb:Below w.heap.size w W)=>iN A n c xs GB W (hr.below hb) (by omega) (by omega) (by decide)
 rw[show(GB:ByteArray).data.toList=vX from rfl]at k3;have Qh:=nt xs vN;have k2:=λW=>FF ⟨(c_ xs vN).1.toArray⟩ W (by rw[aY];show(c_ xs vN).1.length<=_;omega)
 have k4:=λW(hb:Below w.heap.size w W)=>n8 ⟨(c_ xs vX).1.toArray⟩ got W (hE.below hb)
 rw[show(⟨(c_ xs vX).1.toArray⟩:ByteArray).data.toList=(c_ xs vX).1 from rfl]at k4;unfold xo;unfold ux at k1 k3;generalize c_ xs vN=g at*;generalize c_ xs vX=h at*;obtain⟨gv,gi⟩:=g;obtain⟨hv,hi⟩:=h;simp only at k1 k2 k3 k4 ⊢
 generalize kJ hv got=r at*;obtain⟨t,er⟩:=r;simp only at k4 ⊢
 unfold vT.parse at k2;generalize mX ⟨gv.toArray⟩=en at*;obtain⟨ew,rt,et⟩:=en;simp only at k2 ⊢
 obtain⟨c0,c1,c2,c3,c4,c5,c6,c7,cl⟩:=x1.cells;obtain⟨NC,K1,K2,K3⟩:=bK Ne k1 k2 k3;obtain⟨K4,B1,X1⟩:=bu k4 b1 x1;clear Ne k1 k3 k4 x1 hr hs hE b1 Qh O4;unfold dI
 cases rt
 ·simp only[cond_false]at k2;have K2:=ah k2;clear k2;rw[ig];go_enter Tryz.func303,Tryz.ntmps303
  go_wp2_with fail
  rw[NC.out];refine K1.out.mono ?_;rintro e w1 ⟨rfl,M8⟩;clear c0 c1 c2 c3 c4 c5 c6 c7;go_wp2_with fail
  refine(K2.out _).mono ?_;rintro e w2 ⟨rfl,M9⟩;have Nk:=bt M8 M9;obtain⟨c0,c1,c2,c3,c4,c5,c6,c7,_⟩:=(X1.out.below Nk).cells;go_wp2_with fail
  refine(K3.out _ (bt B1.out Nk)).mono ?_;rintro e w3 ⟨rfl,Na⟩;have Nu:=bt Nk Na;clear c0 c1 c2 c3 c4 c5 c6 c7;obtain⟨c0,c1,c2,c3,c4,c5,c6,c7,_⟩:=(X1.out.below Nu).cells;go_wp2_with fail
  refine(K4.out _ (bt B1.out Nu)).mono ?_;rintro e w4 ⟨rfl,Nf⟩;have Ny:=bt Nu Nf;clear c0 c1 c2 c3 c4 c5 c6 c7;go_wp2;go_ret;exact⟨rfl,bt B1.out Ny⟩
 ·simp only[cond_true]at k2;have K2:=ah k2;clear k2;rw[iY];go_enter Tryz.func303,Tryz.ntmps303
  go_wp2_with fail
  rw[NC.out];refine K1.out.mono ?_;rintro e w1 ⟨rfl,M8⟩;clear c0 c1 c2 c3 c4 c5 c6 c7;go_wp2_with fail
  refine(K2.out _).mono ?_;rintro e w2 ⟨rfl,M9⟩;have Nk:=bt M8 M9;go_wp2;go_ret;exact⟨rfl,bt B1.out Nk⟩
theorem F7(T:Nat)(me:ByteArray)(w:World)(hT:w.cell? ⟨T,0,none⟩=some (.string me)):Calls Tryz.prog 295 #[.pointer (some ⟨T,0,none⟩)] w λe w'=>e=.returned (.bool (me.data.toList==Gf))/\Below w.heap.size w w':=by
 have e1:(me.toList==[71,69,84])=(me.data.toList==Gf):=by rw[dY];rfl
 have E1:=ah e1;clear e1;go_enter Tryz.func295,Tryz.ntmps295
 go_wp2;go_ret;exact⟨by rw[<-E1.out];rfl,aO _ _⟩
theorem IP(T:Nat)(st mi asked got:Int)(re bo:ByteArray)(A V:Option Addr)(n c m d:Nat)(xs:List aU)(w:World)(hT:ms T st re mi A n c bo asked got V m d w)(hr:Rd A n 2 (aJ xs) w)(hn:n<=1000)(hs:aE xs<=1000000):Calls Tryz.prog 300 #[.pointer (some ⟨T,0,none⟩)] w λe w'=>e=.returned (.bool (bz xs).isSome)/\Below w.heap.size w w':=by
 obtain⟨c0,c1,c2,c3,c4,c5,c6,c7,cl⟩:=hT.cells;have k1:=oq st re mi A n c bo xs w hr hn (λf hf=>by have:=bM hf;omega);unfold iH ID at k1;have K1:=ah k1;clear k1 hT hr hs;go_enter Tryz.func300,Tryz.ntmps300
 go_wp2_with fail
 refine K1.out.mono ?_;rintro e w1 ⟨a1,d1,rfl,ho,M8⟩;clear ho;go_wp2;go_ret;exact⟨rfl,M8⟩
theorem Rd.newL(w:World)(ls:List (List UInt8))(T:TypeId):Rd (some ⟨w.heap.size,0,none⟩) ls.length 1 (aF ls) (w.alloc (.cells (aF ls).toArray T)):=by refine⟨by unfold aF;simp,λ_=>⟨w.heap.size,0,rfl,by simp,λj u hu=>?_⟩⟩;rw[iq,cK];simpa using hu
def pM(xs:List da):Prop:=xs.length<=1000000/\∀d∈xs,d.name.length<=140737488351232
theorem uc(A:Option Addr)(n c:Nat)(xs:List da)(ls:List (List UInt8))(k:Nat)(w:World)(hr:Rd A n 4 (cz xs) w)(hx:pM xs)(hk:ls.length=k)(hm:k<=1000)(hl:∀l∈ls,l.length<=1000000)(W:World)(hW:w.alloc (.cells (aF ls).toArray 9)=W):Calls Tryz.prog 299 #[.slice A n c,.slice (some ⟨w.heap.size,0,none⟩) k k] W λe w'=>e=.returned (.bool (ot xs ls))/\Below w.heap.size w w':=by
 subst hk;have hb:=bm hW;have hN:Rd (some ⟨w.heap.size,0,none⟩) ls.length 1 (aF ls) W:=by rw[<-hW];exact Rd.newL w ls 9
 refine(Jf A (some ⟨w.heap.size,0,none⟩) n c ls.length ls.length xs ls W (hr.below hb) (by rw[hr.dir];exact hx.1) hx.2 hN (by omega) hl).mono ?_;rintro e w' ⟨rfl,h⟩;exact⟨rfl,bt hb h⟩
theorem Gv(T:Nat)(st mi asked got:Int)(re bo:ByteArray)(A V:Option Addr)(n c m d:Nat)(w:World)(hT:ms T st re mi A n c bo asked got V m d w):Calls Tryz.prog 296 #[.pointer (some ⟨T,0,none⟩)] w λe w'=>e=.returned (.bool (Fz st))/\Below w.heap.size w w':=by
 obtain⟨c0,c1,c2,c3,c4,c5,c6,c7,cl⟩:=hT.cells;obtain⟨W1,Ne⟩:=bg w (.cells #[.int .i64 200,.int .i64 301,.int .i64 404,.int .i64 410] 3);have b1:=bm Ne
 have k1:=Tryz.slices_Contains_int w.heap.size 0 4 4 [200,301,404,410] st W1 (by decide) (by decide) (fun j hj=>by
  rw[iq,<-Ne,cK]
  match j,hj with
  |0,_=>rfl
  |1,_=>rfl
  |2,_=>rfl
  |3,_=>rfl)
 have hq:(([200,301,404,410]:List Int).take 4).contains st=Fz st:=by rw[jj];simp[Fz,or_assoc]
 rw[hq]at k1;have c0':=(b1.cell (p:=⟨T,0,none⟩) cl).trans c0;rw[<-Ne]at c0';obtain⟨K1,NC⟩:=az k1 Ne;clear k1 Ne hT hq c0 c1 c2 c3 c4 c5 c6 c7;go_enter Tryz.func296,Tryz.ntmps296
 go_wp2_with fail
 rw[NC.out];go_wp2_with fail
 refine K1.out.mono ?_;rintro e w2 ⟨rfl,rfl⟩;go_wp2;go_ret;exact⟨rfl,b1⟩
theorem Gd(P Q R:Nat)(A C:Option Addr)(n c m d:Nat)(qs ts:List da)(k:ue)(w:World)(hP:w.cell? ⟨P,0,none⟩=some (.slice A n c))(hQ:w.cell? ⟨Q,0,none⟩=some (.slice C m d))(hQl:Q<w.heap.size)(hR:bI R k w)(hA:Rd A n 4 (cz qs) w)(hC:Rd C m 4 (cz ts) w)(Qo:pM qs)(Ro:pM ts):Calls Tryz.prog 298 #[.pointer (some ⟨P,0,none⟩),.pointer (some ⟨Q,0,none⟩),.pointer (some ⟨R,0,none⟩)] w λe w'=>e=.returned (.bool (!ot qs [noStore]&&!ot ts [noStore,Av]&&!k.noStore))/\Below w.heap.size w w':=by
 obtain⟨W1,Ne⟩:=bg w (.cells #[.string nX] 9);have k1:=uc A n c qs [noStore] 1 w hA Qo rfl (by omega) (by decide) W1 Ne;have k2:=λw2(hb:Below w.heap.size w w2)W hW=>uc C m d ts [noStore,Av] 2 w2 (hC.below hb) Ro rfl (by omega) (by decide) W hW
 have k3:∀w2,Below w.heap.size w w2->w2.cell? ⟨Q,0,none⟩=some (.slice C m d):=λw2 hb=>(hb.cell (p:=⟨Q,0,none⟩) hQl).trans hQ
 have k4:∀w2,Below w.heap.size w w2->w2.cell? ⟨R,0,none⟩=some (.bool k.noStore):=λw2 hb=>((hR.below hb).cells).1
 generalize k.noStore=ns at*;generalize ot qs [noStore]=b1 at*;generalize ot ts [noStore,Av]=b2 at*;obtain⟨K1,K2,K3,K4,NC⟩:=gB k1 k2 k3 k4 Ne;clear k1 k2 k3 k4 Ne hQ hR hA hC Qo Ro
 cases b1
 ·go_enter Tryz.func298,Tryz.ntmps298
  go_wp2_with fail
  rw[NC.out];refine K1.out.mono ?_;rintro e w2 ⟨rfl,M9⟩;have h3:=K3.out w2 M9;obtain⟨W3,NW⟩:=bg w2 (.cells #[.string nX,.string ⟨#[112,114,105,118,97,116,101]⟩] 9);have k2:=K2.out w2 M9 W3 NW;obtain⟨Qk,K2'⟩:=az NW k2;clear k2 NW hP;go_wp2_with fail
  rw[Qk.out];refine K2'.out.mono ?_;rintro e w4 ⟨rfl,Nf⟩;have Ny:=bt M9 Nf;have h4:=K4.out w4 Ny;clear h3 Qk K2'
  cases b2
  ·cases ns
   ·go_wp2;go_ret;exact⟨rfl,Ny⟩
   ·go_wp2;go_ret;exact⟨rfl,Ny⟩
  ·clear h4;go_wp2;go_ret;exact⟨rfl,Ny⟩
 ·go_enter Tryz.func298,Tryz.ntmps298
  go_wp2_with fail
  rw[NC.out];refine K1.out.mono ?_;rintro e w2 ⟨rfl,M9⟩;go_wp2;go_ret;exact⟨rfl,M9⟩
theorem Hu(P Q R:Nat)(A C:Option Addr)(n c m d:Nat)(qs:List aU)(ts:List da)(k:ue)(w:World)(hP:w.cell? ⟨P,0,none⟩=some (.slice A n c))(hQ:w.cell? ⟨Q,0,none⟩=some (.slice C m d))(hQl:Q<w.heap.size)(hR:bI R k w)(hA:Rd A n 2 (aJ qs) w)(hn:n<=1000000)(hs:aE qs<=1000000)(hC:Rd C m 4 (cz ts) w)(Ro:pM ts):Calls Tryz.prog 301 #[.pointer (some ⟨P,0,none⟩),.pointer (some ⟨Q,0,none⟩),.pointer (some ⟨R,0,none⟩)] w λe w'=>e=.returned (.bool (!(c_ qs zO).2||ot ts [Gt,oZ,Al]||k.hasAge))/\Below w.heap.size w w':=by
 have k1:=iN A n c qs Lb w hA hn hs (by decide);rw[show(Lb:ByteArray).data.toList=zO from rfl]at k1;have k2:=λw2(hb:Below w.heap.size w w2)W hW=>uc C m d ts [Gt,oZ,Al] 3 w2 (hC.below hb) Ro rfl (by omega) (by decide) W hW
 have k3:∀w2,Below w.heap.size w w2->w2.cell? ⟨Q,0,none⟩=some (.slice C m d):=λw2 hb=>(hb.cell (p:=⟨Q,0,none⟩) hQl).trans hQ
 have k4:∀w2,Below w.heap.size w w2->w2.cell? ⟨R,3,none⟩=some (.bool k.hasAge):=λw2 hb=>((hR.below hb).cells).2.2.2.1
 generalize k.hasAge=ns at*;unfold ux at k1;generalize c_ qs zO=g at*;obtain⟨gv,gi⟩:=g;simp only at k1 ⊢
 generalize ot ts [Gt,oZ,Al]=b2 at*;obtain⟨K1,K2,K3,K4⟩:=bK k1 k2 k3 k4;clear k1 k2 k3 k4 hQ hR hA hC Ro
 cases gi
 ·go_enter Tryz.func301,Tryz.ntmps301
  go_wp2_with fail
  refine K1.out.mono ?_;rintro e w2 ⟨rfl,M9⟩;go_wp2;go_ret;exact⟨rfl,M9⟩
 ·go_enter Tryz.func301,Tryz.ntmps301
  go_wp2_with fail
  refine K1.out.mono ?_;rintro e w2 ⟨rfl,M9⟩;have h3:=K3.out w2 M9;obtain⟨W3,NW⟩:=bg w2 (.cells #[.string ⟨#[112,117,98,108,105,99]⟩,.string ⟨#[115,45,109,97,120,97,103,101]⟩,.string ⟨#[109,117,115,116,45,114,101,118,97,108,105,100,97,116,101]⟩] 9);have k2:=K2.out w2 M9 W3 NW;obtain⟨Qk,K2'⟩:=az NW k2;clear k2 NW hP;go_wp2_with fail
  rw[Qk.out];refine K2'.out.mono ?_;rintro e w4 ⟨rfl,Nf⟩;have Ny:=bt M9 Nf;have h4:=K4.out w4 Ny;clear h3 Qk K2'
  cases b2
  ·cases ns
   ·go_wp2;go_ret;exact⟨rfl,Ny⟩
   ·go_wp2;go_ret;exact⟨rfl,Ny⟩
  ·clear h4;go_wp2;go_ret;exact⟨rfl,Ny⟩
theorem Gp(T U:Nat)(st mi asked got:Int)(re bo dev:ByteArray)(A V:Option Addr)(n c m d:Nat)(xs:List aU)(w:World)(hE:d9 w)(hT:ms T st re mi A n c bo asked got V m d w)(hU:w.cell? ⟨U,0,none⟩=some (.string dev))(hr:Rd A n 2 (aJ xs) w)(hn:n<=100)(hs:aE xs<=7500)(hg:-9223372036854775808<=got/\got<=9223372036854775807):Calls Tryz.prog 302 #[.pointer (some ⟨T,0,none⟩),.pointer (some ⟨U,0,none⟩)] w λe w'=>e=.returned (.bool (xS xs got dev.data.toList))/\Below w.heap.size w w':=by
 have k1:=yi st mi asked got re bo A V n c m d xs dev w hE hr (by omega) (by omega) hg;have k2:=λW(hb:Below w.heap.size w W)=>FI st mi asked got re bo A V n c m d xs W (hE.below hb) (hr.below hb) hn hs
 have k3:=λW(hb:Below w.heap.size w W)=>(hT.below hb).cells
 obtain⟨c0,c1,c2,c3,c4,c5,c6,c7,cl⟩:=hT.cells;unfold xS;generalize zX xs got dev.data.toList=lf at*;generalize xo xs got=vf at*;obtain⟨K1,K2,K3⟩:=bu k1 k2 k3;clear k1 k2 k3 hE hT hr hs;unfold dI at*;by_cases hl:0<lf
 ·have t1:decide (0<lf)=true:=by simpa using hl
  have t2:decide (lf>0)=true:=t1;rw[t1];go_enter Tryz.func302,Tryz.ntmps302
  go_wp2_with fail
  refine K1.out.mono ?_;rintro e w2 ⟨rfl,M9⟩;clear c0 c1 c2 c3 c4 c5 c6 c7;go_wp2;go_ret;exact⟨by rw[iY];rfl,M9⟩
 ·have t1:decide (0<lf)=false:=by simpa using hl
  have t2:decide (lf>0)=false:=t1;rw[t1,ig];go_enter Tryz.func302,Tryz.ntmps302
  go_wp2_with fail
  refine K1.out.mono ?_;rintro e w2 ⟨rfl,M9⟩;clear c0 c1 c2 c3 c4 c5 c6 c7;obtain⟨c0,c1,c2,c3,c4,c5,c6,c7,_⟩:=K3.out w2 M9;go_wp2_with fail
  refine(K2.out _ M9).mono ?_;rintro e w3 ⟨rfl,Na⟩;clear c0 c1 c2 c3 c4 c5 c6 c7;go_wp2;go_ret;exact⟨rfl,bt M9 Na⟩
end Go.Proofs.YtdbjnlkbhhebbaaGreatDoor
