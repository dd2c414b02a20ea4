/- Kit, Sh, Tk, Tk2, Spec1, Shelf, Lower, Token, Trim, Rd, May, ParseSpec, Own, OwnF, MaxL, Cut, Parse, RMay, ROne, FieldSpec, Same, Values, SplitSpec, StaysSpec, Join, SumF, Get. -/
import Derived.Test.YtdbjnlkbhhebbaaGreatDoorRows
import Derived.WalkKit
import Derived.WalkSpells
import Derived.WalkLawsBesides
import Derived.Deep.DeepCutAuto
import Derived.Deep.QuietTactic
import Derived.BigQuiet
import Derived.Lib.Hide
import Derived.Lib.Strings
import Derived.Deep.RegionHeld3
import Derived.Shelf.Strings.Builder1
import Derived.Shelf.Strings.Builder2
import Derived.Shelf.Strings.OnBuilder
import Derived.Shelf.Strings.Trim
import Derived.Shelf.Small.Utf8
import Derived.Shelf.Small.Strs
import Derived.Shelf.Small.Wraps
import Derived.Shelf.Strings.BuilderF
import Derived.Shelf.Strings.BuilderK
import Derived.Shelf.Strings.Builder2Cap
import Derived.Shelf.Strconv.Atoi
import Derived.Shelf.Strconv.Itoa0
import Derived.Shelf.Strconv.Itoa1
import Derived.Shelf.LaysM
import Derived.Shelf.Strconv.Itoa2
import Derived.Shelf.Strconv.Itoa3
import Derived.Shelf.Strconv.AtoiErrFast
import Derived.Shelf.Strconv.ParseIntEmpty
import Derived.Shelf.Strconv.AtoiFail
import Derived.Shelf.Strconv.Clone
import Derived.Shelf.Strconv.SyntaxError
import Derived.Shelf.LaysC
import Derived.Shelf.Strconv.ToError
import Derived.Shelf.Strconv.Lower
import Derived.Shelf.Strconv.ParseUint10
import Derived.Shelf.Strconv.ParseUint10Empty
import Derived.Shelf.Strconv.ParseUint10Any
import Derived.Shelf.Strconv.ParseInt10
import Derived.Shelf.Strconv.AtoiLong
import Derived.Shelf.Strconv.AtoiInnerAll
import Derived.Shelf.Strconv.RangeError
import Derived.Shelf.Strconv.ToErrorRange
import Derived.Shelf.Strconv.AtoiAll
import Derived.Shelf.Strconv.ErrVarAll
import Derived.Shelf.Strings.Search1
import Derived.Shelf.Strings.Search2
import Derived.Shelf.Strings.Search3
import Derived.Shelf.Strings.Cut
import Derived.Shelf.Strings.Count
import Derived.Shelf.Strings.Shaped
import Derived.Shelf.Strings.Prefix
import Derived.Shelf.Strings.Split
import Derived.Shelf.Strings.Fields
import Derived.Shelf.Strings.SplitShaped
import Derived.Shelf.Unicode.Latin
import Derived.Shelf.Unicode.Decode
import Derived.Shelf.Strings.Runes
import Derived.Shelf.Strings.AsciiSet
import Derived.Shelf.Unicode.DecodeSlow
import Derived.Shelf.Unicode.DecodeAny
import Derived.Shelf.Unicode.Is16White
import Derived.Shelf.Unicode.IsSpaceAny
import Derived.Shelf.Unicode.DecodeLast
import Derived.Shelf.Unicode.Is16WhiteD
import Derived.Shelf.Unicode.IsSpaceAnyD
import Derived.Shelf.Strings.FieldsAny
import Derived.Shelf.Strings.FieldsFuncAny
import Derived.Shelf.Unicode.CaseLookup
import Derived.Shelf.Unicode.CaseConvert
import Derived.Shelf.Unicode.CaseTo
import Derived.Shelf.Unicode.CaseLaid
import Derived.Shelf.Unicode.Is16Any
import Derived.Shelf.Unicode.Is32Any
import Derived.Shelf.Unicode.ExclAny
import Derived.Shelf.Strings.FieldsFuncGrows
import Derived.Shelf.Strings.BuilderCap
import Derived.Shelf.Slices.Turned
import Derived.Test.YtdbjnlkbhhebbaaGreatDoorProg
import Derived.Lib.SlBytesRow
import Derived.Lib.IndexLaws
import Derived.Shelf.Strings.SlTrimAscii
import Derived.Lib.CutLaws
import Derived.Lib.IndexMore
import Derived.Maps.AppendAt
import Derived.Laws.ResultCell
import Derived.Lib.Join
set_option maxRecDepth 100000
set_option maxHeartbeats 16000000
set_option linter.all false
namespace Go.Proofs.YtdbjnlkbhhebbaaGreatDoor
open Go.RowKit
variable {ops:Array Oper}{Q:Exit->Act->World->Prop}{o:Obj}{P:Program}{a:Prop}{w:World}
theorem bt{w1 w2:World}(h:Below w.heap.size w w1)(k:Below w1.heap.size w1 w2):Below w.heap.size w w2:=h.trans (k.mono h.size)
theorem eV{k:IntKind}{a b:Int}(h:a=b):Ending.returned (.int k a)=.returned (.int k b):=by rw[h]
theorem nF(s:ByteArray)(k:Nat)(h:k<s.size):s.data.toList.take (k+1)=s.data.toList.take k++[s[k]]:=by rw[List.take_succ_eq_append_getElem (by simpa using h)];rfl
theorem nE(s:ByteArray)(k:Nat)(h:k<s.size):s.data.toList.drop k=s[k]::s.data.toList.drop (k+1):=by rw[List.drop_eq_getElem_cons (by simpa using h)];rfl
theorem eH(s:ByteArray)(k:Nat)(h:s.size<=k):s.data.toList.take k=s.data.toList:=List.take_of_length_le (by simpa using h)
theorem mP(s:ByteArray)(k:Nat)(h:s.size<=k):s.data.toList.drop k=[]:=List.drop_eq_nil_of_le (by simpa using h)
theorem lE(p:UInt8->Bool)(s:ByteArray)(k:Nat)(h:k<s.size):(s.data.toList.take (k+1)).all p=((s.data.toList.take k).all p&&p s[k]):=by rw[nF s k h,List.all_append];simp
theorem nr(p:UInt8->Bool)(s:ByteArray)(k:Nat)(h:k<s.size)(hb:p s[k]=false):s.data.toList.all p=false:=by rw[List.all_eq_false];exact⟨s[k],by show s.data[k]∈_;simp,by simp[hb]⟩
theorem bN(s:ByteArray):(⟨s.data.toList.toArray⟩:ByteArray)=s:=Lib.mk_data s
theorem dE(s t:ByteArray)(h:s.data.toList=t.data.toList):s=t:=by rw[<-bN s,<-bN t,h]
theorem mL(o t:ByteArray):(o++t).data.toList=o.data.toList++t.data.toList:=by simp
theorem G8{o:ByteArray}{l:List UInt8}(h:o.data.toList=l):o=⟨l.toArray⟩:=by rw[<-h,bN]
theorem fH(a b:Nat):(a==b)=((a:Int)==(b:Int)):=by rw[Bool.eq_iff_iff];simp only[beq_iff_eq];omega
theorem Mt(t:ByteArray)(l:List UInt8)(ht:t=⟨l.toArray⟩)(j:Nat)(h:j<t.size)(h':j<l.length):t[j]=l[j]:=by subst ht;show(l.toArray)[j]=_;simp
theorem jm(s:ByteArray)(j:Nat)(h:j<s.size):s[j]=s.data.toList[j]'(by simpa using h):=by show s.data[j]=_;simp
theorem fh(s:ByteArray)(h:0<s.size):s.data.toList.isEmpty=false:=by
 cases hq:s.data.toList with
 |nil=>rw[Lib.size_eq,hq]at h;exact absurd h (by simp)
 |cons _ _=>rfl
theorem eQ(s:ByteArray)(h:¬0<s.size):s.data.toList=[]:=by apply List.eq_nil_of_length_eq_zero;rw[<-Lib.size_eq];omega
theorem ay(w:World)(o:Obj)(n:Nat)(h:w.heap.size=n):(w.alloc o).heap[n]?=some o:=by subst h;show(w.heap.push o)[w.heap.size]?=_;simp
theorem ae{b:Nat}(h:w.heap[b]?=some o):b<w.heap.size:=by
 rcases Nat.lt_or_ge b w.heap.size with h'|h'
 ·exact h'
 ·simp[Array.getElem?_eq_none h']at h
theorem qI(c:UInt8):(c.toNat:Int)<256:=by have:=c.toNat_lt;omega
abbrev Ab:Obj:=.cells #[.pointer none,.slice none 0 0] 251
abbrev Jv:Obj:=.cells #[.slice none 0 0] 30
abbrev Ag:Obj:=.cells #[.int .i64 0] 3
abbrev BF:Obj:=.cells #[.string ⟨#[]⟩] 9
abbrev Jb:Obj:=.cells #[.int .i64 0,.int .i64 0] 124
abbrev Kk:Obj:=.cells #[.string ⟨#[]⟩,.string ⟨#[]⟩,.int .i64 0,.string ⟨#[]⟩,.string ⟨#[]⟩,.bool false] 93
abbrev IZ:Obj:=.cells #[.string ⟨#[]⟩,.int .i64 0,.string ⟨#[]⟩,.int .i64 0,.slice none 0 0,.string ⟨#[]⟩,.int .i64 0,.int .i64 0,.slice none 0 0,.int .i64 0] 114
abbrev Mr:Obj:=.cells #[.int .i64 0,.string ⟨#[]⟩,.int .i64 0,.slice none 0 0,.string ⟨#[]⟩,.int .i64 0,.int .i64 0,.slice none 0 0] 105
abbrev lB:Obj:=.cells #[.string ⟨#[]⟩,.string ⟨#[]⟩,.bool false,.string ⟨#[]⟩] 87
abbrev lV:Obj:=.cells #[.bool false,.bool false,.bool false,.bool false,.int .i64 0,.int .i64 0] 45
abbrev lq:Obj:=.cells #[.int .i64 0,.string ⟨#[]⟩,.int .i64 0,.slice none 0 0,.string ⟨#[]⟩,.int .i64 0,.int .i64 0,.int .i64 0,.bool false,.slice none 0 0] 207
abbrev Db:Obj:=.cells #[.string ⟨#[]⟩,.bool false] 62
abbrev GN:Obj:=.cells #[.string ⟨#[]⟩,.string ⟨#[]⟩,.bool false,.bool false,.int .i64 0,.string ⟨#[]⟩,.int .i64 0,.slice none 0 0,.string ⟨#[]⟩,.int .i64 0,.int .i64 0,.slice none 0 0] 260
abbrev De:Obj:=.cells #[.string ⟨#[]⟩,.int .i64 0,.int .i64 0,.int .i64 0,.int .i64 0,.string ⟨#[]⟩,.slice none 0 0] 32
abbrev ij:ByteArray:=⟨#[13,10]⟩
abbrev Da:ByteArray:=⟨#[116,114,97,110,115,102,101,114,45,101,110,99,111,100,105,110,103]⟩
abbrev uR:ByteArray:=⟨#[48,49,50,51,52,53,54,55,56,57,97,98,99,100,101,102,65,66,67,68,69,70]⟩
abbrev zf:ByteArray:=⟨#[13,10,13,10]⟩
abbrev gY:ByteArray:=⟨#[32]⟩
abbrev C_:ByteArray:=⟨#[9,9,32,126,128,255]⟩
abbrev uY:ByteArray:=⟨#[99,111,110,116,101,110,116,45,108,101,110,103,116,104]⟩
abbrev GH:ByteArray:=⟨#[72,84,84,80,47,49,46]⟩
abbrev C0:ByteArray:=⟨#[80,65,84,67,72]⟩
abbrev vP:ByteArray:=⟨#[58,47,47]⟩
abbrev qz:ByteArray:=⟨#[58]⟩
abbrev Au:ByteArray:=⟨#[97,98,99,100,101,102,103,104,105,106,107,108,109,110,111,112,113,114,115,116,117,118,119,120,121,122,65,66,67,68,69,70,71,72,73,74,75,76,77,78,79,80,81,82,83,84,85,86,87,88,89,90,48,49,50,51,52,53,54,55,56,57,45,46]⟩
abbrev ip:ByteArray:=⟨#[47]⟩
abbrev Lc:ByteArray:=⟨#[61,34,83,117,114,114,111,103,97,116,101,47,49,46,48,32,69,83,73,47,49,46,48,34]⟩
abbrev jR:ByteArray:=⟨#[71,69,84]⟩
abbrev nX:ByteArray:=⟨#[110,111,45,115,116,111,114,101]⟩
abbrev qE:ByteArray:=⟨#[115,117,114,114,111,103,97,116,101,45,99,111,110,116,114,111,108]⟩
abbrev C2:ByteArray:=⟨#[110,111,45,115,116,111,114,101,45,114,101,109,111,116,101]⟩
abbrev DN:ByteArray:=⟨#[99,111,110,116,101,110,116]⟩
abbrev C8:ByteArray:=⟨#[109,97,120,45,97,103,101]⟩
abbrev Ln:ByteArray:=⟨#[84,104,117,114,115,100,97,121,32,70,114,105,100,97,121,32,83,97,116,117,114,100,97,121,32,83,117,110,100,97,121,32,77,111,110,100,97,121,32,84,117,101,115,100,97,121,32,87,101,100,110,101,115,100,97,121]⟩
abbrev Li:ByteArray:=⟨#[74,97,110,70,101,98,77,97,114,65,112,114,77,97,121,74,117,110,74,117,108,65,117,103,83,101,112,79,99,116,78,111,118,68,101,99]⟩
abbrev Bi:ByteArray:=⟨#[99,97,99,104,101,45,99,111,110,116,114,111,108]⟩
abbrev Du:ByteArray:=⟨#[101,120,112,105,114,101,115]⟩
abbrev Dd:ByteArray:=⟨#[100,97,116,101]⟩
abbrev GB:ByteArray:=⟨#[108,97,115,116,45,109,111,100,105,102,105,101,100]⟩
abbrev vt:ByteArray:=⟨#[65,103,101]⟩
abbrev DL:ByteArray:=⟨#[78,111,116,32,77,111,100,105,102,105,101,100]⟩
abbrev Lb:ByteArray:=⟨#[97,117,116,104,111,114,105,122,97,116,105,111,110]⟩
abbrev AT:ByteArray:=⟨#[104,116,116,112,58,47,47]⟩
abbrev iA:ByteArray:=⟨#[104]⟩
abbrev ir:ByteArray:=⟨#[100]⟩
abbrev Gb:ByteArray:=⟨#[104,116,116,112,58,47,47,104,47]⟩
abbrev sC:ByteArray:=⟨#[67,111,111,107,105,101]⟩
abbrev sX:ByteArray:=⟨#[88,45,70]⟩
theorem bg(w:World)(o:Obj):∃W,w.alloc o=W:=⟨_,rfl⟩
theorem aH{α:Sort _}(a:α):∃x,a=x:=⟨_,rfl⟩
theorem bm{W:World}(h:w.alloc o=W):Below w.heap.size w W:=by rw[<-h];exact(Below.refl _ w).alloc (Nat.le_refl _) _
theorem dU{W:World}(h:w.alloc o=W):W.heap[w.heap.size]?=some o:=by rw[<-h];exact ay w _ _ rfl
theorem ah(x:a):Hid a:=x
theorem az{b:Prop}(x0:a)(x1:b):Hid a/\Hid b:=⟨x0,x1⟩
theorem bu{b c:Prop}(x0:a)(x1:b)(x2:c):Hid a/\Hid b/\Hid c:=⟨x0,x1,x2⟩
theorem bK{b c d:Prop}(x0:a)(x1:b)(x2:c)(x3:d):Hid a/\Hid b/\Hid c/\Hid d:=⟨x0,x1,x2,x3⟩
theorem gB{b c d e:Prop}(x0:a)(x1:b)(x2:c)(x3:d)(x4:e):Hid a/\Hid b/\Hid c/\Hid d/\Hid e:=⟨x0,x1,x2,x3,x4⟩
theorem eN{b c d e f:Prop}(x0:a)(x1:b)(x2:c)(x3:d)(x4:e)(x5:f):Hid a/\Hid b/\Hid c/\Hid d/\Hid e/\Hid f:=⟨x0,x1,x2,x3,x4,x5⟩
theorem cQ{α:Type}{x:Option α}{a b:α}(h:x=some a)(e:a=b:=by kernel_rfl):x=some b:=e ▸ h
theorem wG(fn:Fn)(first cap:Array Value)(w:World):(Instr.makeFunc fn first cap).run Tryz.prog w=.ok (.func fn first cap) w:=rfl
theorem wC{b:Prop}(x:a)(y:b):Hid (a/\b):=⟨x,y⟩
theorem BQ{b c:Prop}(x:a)(y:b)(z:c):Hid (a/\b/\c):=⟨x,y,z⟩
theorem aS{b:Nat}{T:TypeId}{l:List Value}(h:w.heap[b]?=some (.cells l.toArray T (0,0)))(j:Nat){v:Value}(hv:l[j]?=some v:=by rfl):w.cell? ⟨b,j,none⟩=some v:=by simp[World.cell?,h,hv]
theorem lW{α:Type}{ops:Array α}{i:Nat}{o:α}(h:ops[i]?=some o:=by simp only[List.getElem?_toArray,List.getElem?_cons_succ,List.getElem?_cons_zero];exact rfl):ops[i]?=some o:=h
theorem aw:type_of% @Nat.le_refl:=@Nat.le_refl
theorem cS:type_of% @List.getElem?_cons_zero:=@List.getElem?_cons_zero
theorem aY:type_of% @Lib.size_eq:=@Lib.size_eq
theorem bE:type_of% @Nat.lt_of_lt_of_le:=@Nat.lt_of_lt_of_le
theorem bP:type_of% @List.length_append:=@List.length_append
theorem aO:type_of% @Below.refl:=@Below.refl
theorem cT:type_of% @List.getElem?_toArray:=@List.getElem?_toArray
theorem cK:type_of% @World.cell?_alloc_mark:=@World.cell?_alloc_mark
theorem bj:type_of% @Nat.le_trans:=@Nat.le_trans
theorem b_:type_of% @IntKind.wrap_i64:=@IntKind.wrap_i64
theorem cv:type_of% @List.getElem?_cons_succ:=@List.getElem?_cons_succ
theorem am:type_of% @Lib.hid:=@Lib.hid
theorem cH:type_of% @List.setIfInBounds_toArray:=@List.setIfInBounds_toArray
theorem bJ:type_of% @List.mem_cons_of_mem:=@List.mem_cons_of_mem
theorem aB:type_of% @And.intro:=@And.intro
theorem a_:type_of% @Nat.zero_le:=@Nat.zero_le
theorem bw:type_of% @List.map_cons:=@List.map_cons
theorem cg:type_of% @List.length_cons:=@List.length_cons
theorem bQ:type_of% @List.getElem_mem:=@List.getElem_mem
theorem cA:type_of% @List.mem_singleton:=@List.mem_singleton
theorem gL:type_of% @List.take_succ_eq_append_getElem:=@List.take_succ_eq_append_getElem
theorem cI:type_of% @List.set_cons_zero:=@List.set_cons_zero
theorem cF:type_of% @List.set_cons_succ:=@List.set_cons_succ
theorem eu:type_of% @ByteArray.size_extract:=@ByteArray.size_extract
theorem dM:type_of% @List.length_singleton:=@List.length_singleton
theorem fy:type_of% @Array.getElem?_eq_none:=@Array.getElem?_eq_none
theorem cO:type_of% @List.map_append:=@List.map_append
theorem dm:type_of% @List.length_take:=@List.length_take
theorem eE:type_of% @List.length_map:=@List.length_map
theorem fJ:type_of% @Array.getElem?_modify:=@Array.getElem?_modify
theorem dH:type_of% @List.all_eq_true:=@List.all_eq_true
theorem dY:type_of% @Lib.toList_data:=@Lib.toList_data
theorem eD:type_of% @Lib.extract_data:=@Lib.extract_data
theorem cZ:type_of% @List.mem_cons:=@List.mem_cons
theorem di:type_of% @Bool.not_true:=@Bool.not_true
theorem eA:type_of% @Bool.and_eq_true:=@Bool.and_eq_true
theorem dK:type_of% @List.nodup_cons:=@List.nodup_cons
theorem eM:type_of% @List.take_length:=@List.take_length
theorem dG:type_of% @List.sum_cons:=@List.sum_cons
theorem fD:type_of% @List.mem_cons_self:=@List.mem_cons_self
theorem eB:type_of% @List.mem_append:=@List.mem_append
theorem mz:type_of% @List.eq_nil_of_length_eq_zero:=@List.eq_nil_of_length_eq_zero
theorem ef:type_of% @Nat.lt_or_ge:=@Nat.lt_or_ge
theorem e9:type_of% @List.append_nil:=@List.append_nil
theorem gH:type_of% @List.length_drop:=@List.length_drop
theorem mj:type_of% @List.getElem?_eq_some_iff:=@List.getElem?_eq_some_iff
theorem jJ:type_of% @List.take_of_length_le:=@List.take_of_length_le
theorem dF:type_of% @Nat.le_of_lt:=@Nat.le_of_lt
theorem lx:type_of% @List.getElem?_eq_getElem:=@List.getElem?_eq_getElem
theorem eJ:type_of% @Bool.true_and:=@Bool.true_and
theorem jj:type_of% @Bool.eq_iff_iff:=@Bool.eq_iff_iff
theorem jk:type_of% @List.flatMap_cons:=@List.flatMap_cons
theorem iC:type_of% @Bool.not_false:=@Bool.not_false
theorem gN:type_of% @Bool.false_and:=@Bool.false_and
theorem eY:type_of% @List.mem_map:=@List.mem_map
theorem iq:type_of% @Nat.zero_add:=@Nat.zero_add
theorem Mf:type_of% @World.cell?_alloc_lt:=@World.cell?_alloc_lt
theorem fE:type_of% @Below.heap_setCell:=@Below.heap_setCell
theorem gG:type_of% @Below.heap_alloc:=@Below.heap_alloc
theorem ic:type_of% @List.length_nil:=@List.length_nil
theorem ig:type_of% @Bool.false_or:=@Bool.false_or
theorem fX:type_of% @Nat.le_succ:=@Nat.le_succ
theorem mw:type_of% @Nat.eq_zero_or_pos:=@Nat.eq_zero_or_pos
theorem mt:type_of% @Bool.false_eq_true:=@Bool.false_eq_true
theorem lv:type_of% @Option.some.inj:=@Option.some.inj
theorem lp:type_of% @List.nil_append:=@List.nil_append
theorem jU:type_of% @Bool.and_false:=@Bool.and_false
theorem mr:type_of% @List.cons_append:=@List.cons_append
theorem jh:type_of% @List.all_cons:=@List.all_cons
theorem nV:type_of% @ByteArray.size_append:=@ByteArray.size_append
theorem iY:type_of% @Bool.true_or:=@Bool.true_or
theorem mM:type_of% @List.find?_eq_none:=@List.find?_eq_none
theorem lD:type_of% @List.mem_filter:=@List.mem_filter
theorem tu:type_of% @List.drop_eq_getElem_cons:=@List.drop_eq_getElem_cons
theorem iR:type_of% @Int.le_refl:=@Int.le_refl
theorem qo:type_of% @ByteArray.data_append:=@ByteArray.data_append
theorem kN:type_of% @Bool.and_true:=@Bool.and_true
theorem IR:type_of% @List.dropWhile_cons_of_neg:=@List.dropWhile_cons_of_neg
theorem n7:type_of% @List.all_append:=@List.all_append
theorem o8:type_of% @List.filter_cons:=@List.filter_cons
theorem na:type_of% @List.drop_zero:=@List.drop_zero
theorem qV:type_of% @Bool.or_eq_false_iff:=@Bool.or_eq_false_iff
theorem qA:type_of% @List.take_succ_cons:=@List.take_succ_cons
theorem mU:type_of% @Bool.or_false:=@Bool.or_false
theorem uS:type_of% @Int.tmod_eq_emod_of_nonneg:=@Int.tmod_eq_emod_of_nonneg
theorem sE:type_of% @List.mem_append_right:=@List.mem_append_right
theorem go{α:Type}(l:List α)(i:Nat)(a:α):l.toArray.setIfInBounds i a=(l.set i a).toArray:=List.setIfInBounds_toArray l i a
theorem gk{α:Type}(x:α)(l:List α)(b:α):(x::l).set 0 b=b::l:=List.set_cons_zero
theorem gn{α:Type}(x:α)(l:List α)(i:Nat)(b:α):(x::l).set (i+1) b=x::l.set i b:=List.set_cons_succ
theorem M5{md:Region.Mode}{S:World->Prop}(i:Nat){oi:Oper}{v:Value}{fuel:Nat}{listed:Array Bool}{a:Act}{w:World}(hS:S w)(h:wpAnyH P md ops Q S fuel (listed.setIfInBounds i true) (a.put oi.dst v) w)(hi:ops[i]?=some oi:=by simp only[List.getElem?_toArray,List.getElem?_cons_succ,List.getElem?_cons_zero];exact rfl)(hs:Region.noSelect ops=true:=by kernel_rfl)(hf:Region.free md ops listed i=true:=by kernel_rfl)(hr:(Region.ready md ops listed).contains i=true:=by kernel_rfl)(hQ:∀c a w,Q (.panic c) (a.put oi.dst v) w->Q (.panic c) a w:=by intro _ _ _ h;exact h)(hw:Region.wanted oi (yielded ops a.tmps)=true:=by rfl)(hy:∀w,S w->(execOp a.eval oi).run P w=.ok (.value v) w:=by intro W hSw;(try dsimp only at hSw);first|(go_simp;done)|(go_simp;with_reducible rfl)):wpAnyH P md ops Q S (fuel+1) listed a w:=wpAnyH_take hi hs hf hr hQ (Or.inl ⟨hw,hy⟩) hS h
theorem M6{md:Region.Mode}{S:World->Prop}(i:Nat){oi:Oper}{fuel:Nat}{listed:Array Bool}{a:Act}{w:World}(hS:S w)(h:wpAnyH P md ops Q S fuel (listed.setIfInBounds i true) (a.put oi.dst undef) w)(hi:ops[i]?=some oi:=by simp only[List.getElem?_toArray,List.getElem?_cons_succ,List.getElem?_cons_zero];exact rfl)(hs:Region.noSelect ops=true:=by kernel_rfl)(hf:Region.free md ops listed i=true:=by kernel_rfl)(hr:(Region.ready md ops listed).contains i=true:=by kernel_rfl)(hQ:∀c a w,Q (.panic c) (a.put oi.dst undef) w->Q (.panic c) a w:=by intro _ _ _ h;exact h)(hw:Region.wanted oi (yielded ops a.tmps)=false:=by rfl):wpAnyH P md ops Q S (fuel+1) listed a w:=wpAnyH_take hi hs hf hr hQ (Or.inr ⟨hw,rfl⟩) hS h
theorem fM{md:Region.Mode}{S:World->Prop}(i:Nat){oi:Oper}{v:Value}{fuel:Nat}{listed:Array Bool}{a a':Act}{w:World}(hS:S w)(h:wpAnyH P md ops Q S fuel (listed.setIfInBounds i true) a' w)(hi:ops[i]?=some oi:=by simp only[List.getElem?_toArray,List.getElem?_cons_succ,List.getElem?_cons_zero];exact rfl)(hs:Region.noSelect ops=true:=by kernel_rfl)(hf:Region.free md ops listed i=true:=by kernel_rfl)(hr:(Region.ready md ops listed).contains i=true:=by kernel_rfl)(hQ:∀c a w,Q (.panic c) (a.put oi.dst v) w->Q (.panic c) a w:=by intro _ _ _ h;exact h)(hw:Region.wanted oi (yielded ops a.tmps)=true:=by rfl)(hy:∀w,S w->(execOp a.eval oi).run P w=.ok (.value v) w:=by intro W hSw;(try dsimp only at hSw);first|(go_simp;done)|(go_simp;with_reducible rfl))(ha:a.put oi.dst v=a':=by(try simp only[Act.put,go,gk,gn]);rfl):wpAnyH P md ops Q S (fuel+1) listed a w:=by subst ha;exact wpAnyH_take hi hs hf hr hQ (Or.inl ⟨hw,hy⟩) hS h
theorem dO{md:Region.Mode}{S:World->Prop}(i:Nat){oi:Oper}{fuel:Nat}{listed:Array Bool}{a a':Act}{w:World}(hS:S w)(h:wpAnyH P md ops Q S fuel (listed.setIfInBounds i true) a' w)(hi:ops[i]?=some oi:=by simp only[List.getElem?_toArray,List.getElem?_cons_succ,List.getElem?_cons_zero];exact rfl)(hs:Region.noSelect ops=true:=by kernel_rfl)(hf:Region.free md ops listed i=true:=by kernel_rfl)(hr:(Region.ready md ops listed).contains i=true:=by kernel_rfl)(hQ:∀c a w,Q (.panic c) (a.put oi.dst undef) w->Q (.panic c) a w:=by intro _ _ _ h;exact h)(hw:Region.wanted oi (yielded ops a.tmps)=false:=by rfl)(ha:a.put oi.dst undef=a':=by(try simp only[Act.put,go,gk,gn]);rfl):wpAnyH P md ops Q S (fuel+1) listed a w:=by subst ha;exact wpAnyH_take hi hs hf hr hQ (Or.inr ⟨hw,rfl⟩) hS h
theorem eC{md:Region.Mode}{S:World->Prop}(i1 i2:Nat){o1 o2:Oper}{v1 v2:Value}{fuel:Nat}{l0 l1 l2:Array Bool}{a0 a1 a2:Act}{w:World}(hS:S w)(h:wpAnyH P md ops Q S fuel l2 a2 w)(hi1:ops[i1]?=some o1:=by simp only[List.getElem?_toArray,List.getElem?_cons_succ,List.getElem?_cons_zero];exact rfl)(P8:Region.noSelect ops=true:=by kernel_rfl)(XV:Region.free md ops l0 i1=true:=by kernel_rfl)(O0:(Region.ready md ops l0).contains i1=true:=by kernel_rfl)(hQ1:∀c a w,Q (.panic c) (a.put o1.dst v1) w->Q (.panic c) a w:=by intro _ _ _ h;exact h)(Re:Region.wanted o1 (yielded ops a0.tmps)=true:=by rfl)(Yw:∀w,S w->(execOp a0.eval o1).run P w=.ok (.value v1) w:=by intro W hSw;(try dsimp only at hSw);first|(go_simp;done)|(go_simp;with_reducible rfl))(VN:a0.put o1.dst v1=a1:=by(try simp only[Act.put,go,gk,gn]);rfl)(Rv:l0.setIfInBounds i1 true=l1:=by rfl)(U9:ops[i2]?=some o2:=by simp only[List.getElem?_toArray,List.getElem?_cons_succ,List.getElem?_cons_zero];exact rfl)(QW:Region.noSelect ops=true:=by kernel_rfl)(VU:Region.free md ops l1 i2=true:=by kernel_rfl)(Om:(Region.ready md ops l1).contains i2=true:=by kernel_rfl)(hQ2:∀c a w,Q (.panic c) (a.put o2.dst v2) w->Q (.panic c) a w:=by intro _ _ _ h;exact h)(OU:Region.wanted o2 (yielded ops a1.tmps)=true:=by rfl)(RH:∀w,S w->(execOp a1.eval o2).run P w=.ok (.value v2) w:=by intro W hSw;(try dsimp only at hSw);first|(go_simp;done)|(go_simp;with_reducible rfl))(TW:a1.put o2.dst v2=a2:=by(try simp only[Act.put,go,gk,gn]);rfl)(Nq:l1.setIfInBounds i2 true=l2:=by rfl):wpAnyH P md ops Q S (fuel+1+1) l0 a0 w:=by subst VN Rv TW Nq;exact wpAnyH_take hi1 P8 XV O0 hQ1 (Or.inl ⟨Re,Yw⟩) hS (wpAnyH_take U9 QW VU Om hQ2 (Or.inl ⟨OU,RH⟩) hS h)
theorem aX{md:Region.Mode}{S:World->Prop}(i1 i2 i3 i4:Nat){o1 o2 o3 o4:Oper}{v1 v2 v3 v4:Value}{fuel:Nat}{l0 l1 l2 l3 l4:Array Bool}{a0 a1 a2 a3 a4:Act}{w:World}(hS:S w)(h:wpAnyH P md ops Q S fuel l4 a4 w)(hi1:ops[i1]?=some o1:=by simp only[List.getElem?_toArray,List.getElem?_cons_succ,List.getElem?_cons_zero];exact rfl)(P8:Region.noSelect ops=true:=by kernel_rfl)(XV:Region.free md ops l0 i1=true:=by kernel_rfl)(O0:(Region.ready md ops l0).contains i1=true:=by kernel_rfl)(hQ1:∀c a w,Q (.panic c) (a.put o1.dst v1) w->Q (.panic c) a w:=by intro _ _ _ h;exact h)(Re:Region.wanted o1 (yielded ops a0.tmps)=true:=by rfl)(Yw:∀w,S w->(execOp a0.eval o1).run P w=.ok (.value v1) w:=by intro W hSw;(try dsimp only at hSw);first|(go_simp;done)|(go_simp;with_reducible rfl))(VN:a0.put o1.dst v1=a1:=by(try simp only[Act.put,go,gk,gn]);rfl)(Rv:l0.setIfInBounds i1 true=l1:=by rfl)(U9:ops[i2]?=some o2:=by simp only[List.getElem?_toArray,List.getElem?_cons_succ,List.getElem?_cons_zero];exact rfl)(QW:Region.noSelect ops=true:=by kernel_rfl)(VU:Region.free md ops l1 i2=true:=by kernel_rfl)(Om:(Region.ready md ops l1).contains i2=true:=by kernel_rfl)(hQ2:∀c a w,Q (.panic c) (a.put o2.dst v2) w->Q (.panic c) a w:=by intro _ _ _ h;exact h)(OU:Region.wanted o2 (yielded ops a1.tmps)=true:=by rfl)(RH:∀w,S w->(execOp a1.eval o2).run P w=.ok (.value v2) w:=by intro W hSw;(try dsimp only at hSw);first|(go_simp;done)|(go_simp;with_reducible rfl))(TW:a1.put o2.dst v2=a2:=by(try simp only[Act.put,go,gk,gn]);rfl)(Nq:l1.setIfInBounds i2 true=l2:=by rfl)(Yx:ops[i3]?=some o3:=by simp only[List.getElem?_toArray,List.getElem?_cons_succ,List.getElem?_cons_zero];exact rfl)(R_:Region.noSelect ops=true:=by kernel_rfl)(hf3:Region.free md ops l2 i3=true:=by kernel_rfl)(hr3:(Region.ready md ops l2).contains i3=true:=by kernel_rfl)(hQ3:∀c a w,Q (.panic c) (a.put o3.dst v3) w->Q (.panic c) a w:=by intro _ _ _ h;exact h)(QI:Region.wanted o3 (yielded ops a2.tmps)=true:=by rfl)(hy3:∀w,S w->(execOp a2.eval o3).run P w=.ok (.value v3) w:=by intro W hSw;(try dsimp only at hSw);first|(go_simp;done)|(go_simp;with_reducible rfl))(Yl:a2.put o3.dst v3=a3:=by(try simp only[Act.put,go,gk,gn]);rfl)(QD:l2.setIfInBounds i3 true=l3:=by rfl)(ZO:ops[i4]?=some o4:=by simp only[List.getElem?_toArray,List.getElem?_cons_succ,List.getElem?_cons_zero];exact rfl)(hs4:Region.noSelect ops=true:=by kernel_rfl)(hf4:Region.free md ops l3 i4=true:=by kernel_rfl)(UQ:(Region.ready md ops l3).contains i4=true:=by kernel_rfl)(Xl:∀c a w,Q (.panic c) (a.put o4.dst v4) w->Q (.panic c) a w:=by intro _ _ _ h;exact h)(T_:Region.wanted o4 (yielded ops a3.tmps)=true:=by rfl)(hy4:∀w,S w->(execOp a3.eval o4).run P w=.ok (.value v4) w:=by intro W hSw;(try dsimp only at hSw);first|(go_simp;done)|(go_simp;with_reducible rfl))(QR:a3.put o4.dst v4=a4:=by(try simp only[Act.put,go,gk,gn]);rfl)(Te:l3.setIfInBounds i4 true=l4:=by rfl):wpAnyH P md ops Q S (fuel+1+1+1+1) l0 a0 w:=by subst VN Rv TW Nq Yl QD QR Te;exact wpAnyH_take hi1 P8 XV O0 hQ1 (Or.inl ⟨Re,Yw⟩) hS (wpAnyH_take U9 QW VU Om hQ2 (Or.inl ⟨OU,RH⟩) hS (wpAnyH_take Yx R_ hf3 hr3 hQ3 (Or.inl ⟨QI,hy3⟩) hS (wpAnyH_take ZO hs4 hf4 UQ Xl (Or.inl ⟨T_,hy4⟩) hS h)))
theorem cL{md:Region.Mode}{S:World->Prop}(i:Nat){o:Oper}{fuel:Nat}{listed:Array Bool}{a:Act}{w:World}(h:∀K':Act->World->Prop,Shut (∀a w,S w->(S w->wpAnyH P md ops Q S fuel (listed.setIfInBounds i true) a w)->K' a w)->Oper.wp P o a w K' Q)(hr:Region.ready md ops listed=[i]:=by kernel_rfl)(ho:ops[i]?=some o:=by simp only[List.getElem?_toArray,List.getElem?_cons_succ,List.getElem?_cons_zero];exact rfl)(hw:Region.wanted o (yielded ops a.tmps)=true:=by rfl):wpAnyH P md ops Q S (fuel+1) listed a w:=wpAnyH_ready hr (by simp) (AllReadyH.cons ho (λK hK=>by rw[if_pos hw];exact h K hK) AllReadyH.nil)
theorem BW{S R:World->Prop}{id:Nat}{a:Act}(kc:∀w',R w'->S w')(hR:R w.drew)(h:S w.drew->wpAnyH P .any ops Q S ops.size (Array.replicate ops.size false) a w.drew)(hm:P.follows .mixedOrders=true:=by kernel_rfl):(Code.region id ops true).wp P Q a w:=wp_region_held_drew hm (kc _ hR) h
def pV(c:UInt8):Bool:=c.toNat==9||(decide (32<=c.toNat)&&c.toNat !=127)
def M0(c:UInt8):List UInt8:=bif c.toNat==34||c.toNat==92 then [92,c]else [c]
def MM(s:ByteArray):List UInt8:=34::(s.data.toList.flatMap M0++[34])
def two(l:Option (List UInt8)):Value:=match l with
 |some l=>.tuple #[.string ⟨l.toArray⟩,.int .i64 0]
 |none=>.tuple #[.string ⟨#[]⟩,.int .i64 4]
def tJ:Bool->List UInt8->Option (List UInt8)
 |b,[]=>bif b then none else some []
 |b,c::r=>
  bif !pV c||(c.toNat==34&&!b)then none
  else bif c.toNat==92&&!b then tJ true r
  else(tJ false r).map (c::·)
def mG(l:List UInt8):Option (List UInt8):=bif decide (2<=l.length)&&(l.head?.getD 0).toNat==34&&(l.getLast?.getD 0).toNat==34 then tJ false (l.drop 1).dropLast else none
def jc(c:UInt8):UInt8:=bif decide (65<=c.toNat)&&decide (c.toNat<=90)then c+32 else c
def ai(l:List UInt8):List UInt8:=l.map jc
def nW:List UInt8:=[33,35,36,37,38,39,42,43,45,46,94,95,96,124,126]
def kO(c:UInt8):Bool:=(decide (97<=c.toNat)&&decide (c.toNat<=122))||(decide (65<=c.toNat)&&decide (c.toNat<=90))||(decide (48<=c.toNat)&&decide (c.toNat<=57))
def fL(c:UInt8):Bool:=kO c||nW.contains c
def be(l:List UInt8):Bool:=l.all fL&&!l.isEmpty
end Go.Proofs.YtdbjnlkbhhebbaaGreatDoor
namespace Go.Proofs
open Go.Shelf YtdbjnlkbhhebbaaGreatDoor
def Tryz.lays170_ren:Go.Shelf.Ren:=⟨fun|170=>165|n=>n,fun|70=>249|3=>3|0=>0|72=>251|37=>168|5=>5|n=>n,fun|n=>n⟩
theorem Tryz.lays170:Go.Proofs.Lays.n170 Tryz.prog Tryz.lays170_ren:={
 mixed:=by kernel_rfl
 f170:=cQ Tryz.func165
 t0:=Tryz.underlying0
 a0:=Tryz.isAgg0
 z0:=Tryz.sizeOf0
 v0:=Tryz.zeroValue0
 t3:=Tryz.underlying3
 a3:=Tryz.isAgg3
 z3:=Tryz.sizeOf3
 v3:=Tryz.zeroValue3
 t37:=Tryz.underlying168
 a37:=Tryz.isAgg168
 z37:=Tryz.sizeOf168
 v37:=Tryz.zeroValue168
 t70:=Tryz.underlying249
 a70:=Tryz.isAgg249
 z70:=Tryz.sizeOf249
 v70:=Tryz.zeroValue249
 t72:=Tryz.underlying251
 a72:=Tryz.isAgg251
 z72:=Tryz.sizeOf251
 v72:=Tryz.zeroValue251 }
def Tryz.lays169_ren:Go.Shelf.Ren:=⟨fun|169=>157|n=>n,fun|70=>249|9=>9|0=>0|72=>251|37=>168|127=>314|3=>3|5=>5|n=>n,fun|n=>n⟩
theorem Tryz.lays169:Go.Proofs.Lays.n169 Tryz.prog Tryz.lays169_ren:={
 mixed:=by kernel_rfl
 f169:=cQ Tryz.func157
 t0:=Tryz.underlying0
 a0:=Tryz.isAgg0
 z0:=Tryz.sizeOf0
 v0:=Tryz.zeroValue0
 t3:=Tryz.underlying3
 a3:=Tryz.isAgg3
 z3:=Tryz.sizeOf3
 v3:=Tryz.zeroValue3
 t9:=Tryz.underlying9
 a9:=Tryz.isAgg9
 z9:=Tryz.sizeOf9
 v9:=Tryz.zeroValue9
 t37:=Tryz.underlying168
 a37:=Tryz.isAgg168
 z37:=Tryz.sizeOf168
 v37:=Tryz.zeroValue168
 t70:=Tryz.underlying249
 a70:=Tryz.isAgg249
 z70:=Tryz.sizeOf249
 v70:=Tryz.zeroValue249
 t72:=Tryz.underlying251
 a72:=Tryz.isAgg251
 z72:=Tryz.sizeOf251
 v72:=Tryz.zeroValue251
 t127:=Tryz.underlying314
 a127:=Tryz.isAgg314
 z127:=Tryz.sizeOf314
 v127:=Tryz.zeroValue314 }
theorem Tryz.Builder_Extra_169:Builder.Extra Tryz.prog Tryz.lays169_ren:={
 sizeBuilder:=by kernel_rfl
 liesBuilder:=by kernel_rfl
 t5:=Tryz.underlying5
 a5:=Tryz.isAgg5
 z5:=Tryz.sizeOf5
 v5:=Tryz.zeroValue5
 infoByte:=by kernel_rfl
 cellsByte:=by kernel_rfl
 sizeByte:=by kernel_rfl
 neB5:=by decide }
def Tryz.lays156_ren:Go.Shelf.Ren:=⟨fun|156=>179|165=>258|166=>156|169=>157|240=>211|241=>341|276=>280|277=>396|n=>n,fun|31=>30|9=>9|3=>3|4=>4|0=>0|20=>20|72=>251|76=>157|70=>249|37=>168|75=>156|127=>314|164=>378|5=>5|80=>185|n=>n,fun|n=>n⟩
theorem Tryz.lays156:Go.Proofs.Lays.n156 Tryz.prog Tryz.lays156_ren:={
 mixed:=by kernel_rfl
 f156:=cQ Tryz.func179
 f165:=cQ Tryz.func258
 f166:=cQ Tryz.func156
 f169:=cQ Tryz.func157
 f240:=cQ Tryz.func211
 f241:=cQ Tryz.func341
 f276:=cQ Tryz.func280
 f277:=cQ Tryz.func396
 t0:=Tryz.underlying0
 a0:=Tryz.isAgg0
 z0:=Tryz.sizeOf0
 v0:=Tryz.zeroValue0
 t3:=Tryz.underlying3
 a3:=Tryz.isAgg3
 z3:=Tryz.sizeOf3
 v3:=Tryz.zeroValue3
 t4:=Tryz.underlying4
 a4:=Tryz.isAgg4
 z4:=Tryz.sizeOf4
 v4:=Tryz.zeroValue4
 t9:=Tryz.underlying9
 a9:=Tryz.isAgg9
 z9:=Tryz.sizeOf9
 v9:=Tryz.zeroValue9
 t20:=Tryz.underlying20
 a20:=Tryz.isAgg20
 z20:=Tryz.sizeOf20
 v20:=Tryz.zeroValue20
 t31:=Tryz.underlying30
 a31:=Tryz.isAgg30
 z31:=Tryz.sizeOf30
 v31:=Tryz.zeroValue30
 t37:=Tryz.underlying168
 a37:=Tryz.isAgg168
 z37:=Tryz.sizeOf168
 v37:=Tryz.zeroValue168
 t70:=Tryz.underlying249
 a70:=Tryz.isAgg249
 z70:=Tryz.sizeOf249
 v70:=Tryz.zeroValue249
 t72:=Tryz.underlying251
 a72:=Tryz.isAgg251
 z72:=Tryz.sizeOf251
 v72:=Tryz.zeroValue251
 t75:=Tryz.underlying156
 a75:=Tryz.isAgg156
 z75:=Tryz.sizeOf156
 v75:=Tryz.zeroValue156
 t76:=Tryz.underlying157
 a76:=Tryz.isAgg157
 z76:=Tryz.sizeOf157
 v76:=Tryz.zeroValue157
 t127:=Tryz.underlying314
 a127:=Tryz.isAgg314
 z127:=Tryz.sizeOf314
 v127:=Tryz.zeroValue314
 t164:=Tryz.underlying378
 a164:=Tryz.isAgg378
 z164:=Tryz.sizeOf378
 v164:=Tryz.zeroValue378 }
theorem Tryz.Builder_Extra_156:Builder.Extra Tryz.prog Tryz.lays156_ren:={
 sizeBuilder:=by kernel_rfl
 liesBuilder:=by kernel_rfl
 t5:=Tryz.underlying5
 a5:=Tryz.isAgg5
 z5:=Tryz.sizeOf5
 v5:=Tryz.zeroValue5
 infoByte:=by kernel_rfl
 cellsByte:=by kernel_rfl
 sizeByte:=by kernel_rfl
 neB5:=by decide }
open Go.RowKit in
theorem Tryz.strings_Join_none(a:Option Addr)(c:Nat)(sep:ByteArray)(w:World):Calls Tryz.prog 179 #[.slice a 0 c,.string sep] w λe w'=>e=.returned (.string ⟨#[]⟩)/\w'=w:=Any.strings_Join_none Tryz.lays156 Tryz.Builder_Extra_156 a c sep w
open Go.RowKit in
theorem Tryz.strings_Join(bk o c:Nat)(xs:List ByteArray)(sep:ByteArray)(w:World)(hcells:∀(j:Nat)x,xs[j]?=some x->w.cell? ⟨bk,o+j,none⟩=some (.string x))(Np:bk<w.heap.size)(hN:xs.length<=140737488355328)(Pd:xs.length<=c)(hlen:(Lib.join (xs.map (·.data.toList)) sep.data.toList).length<=140737488355328):Calls Tryz.prog 179 #[.slice (some ⟨bk,o,none⟩) xs.length c,.string sep] w λe w'=>e=.returned (.string ⟨(Lib.join (xs.map (·.data.toList)) sep.data.toList).toArray⟩)/\Below w.heap.size w w':=Any.strings_Join Tryz.lays156 Tryz.Builder_Extra_156 bk o c xs sep w hcells Np hN Pd hlen
def Tryz.lays160_ren:Go.Shelf.Ren:=⟨fun|160=>144|232=>195|231=>194|227=>196|234=>198|233=>197|236=>200|235=>199|228=>271|271=>274|151=>273|197=>272|120=>353|152=>352|260=>351|137=>84|119=>401|224=>213|225=>212|217=>140|266=>187|n=>n,fun|9=>9|4=>4|3=>3|5=>5|117=>305|116=>304|0=>0|124=>308|21=>21|105=>370|46=>315|119=>486|139=>489|138=>488|n=>n,fun|3=>4|4=>5|n=>n⟩
theorem Tryz.lays160:Go.Proofs.Lays.n160 Tryz.prog Tryz.lays160_ren:={
 mixed:=by kernel_rfl
 f119:=cQ Tryz.func401
 f120:=cQ Tryz.func353
 f137:=cQ Tryz.func84
 f151:=cQ Tryz.func273
 f152:=cQ Tryz.func352
 f160:=cQ Tryz.func144
 f197:=cQ Tryz.func272
 f217:=cQ Tryz.func140
 f224:=cQ Tryz.func213
 f225:=cQ Tryz.func212
 f227:=cQ Tryz.func196
 f228:=cQ Tryz.func271
 f231:=cQ Tryz.func194
 f232:=cQ Tryz.func195
 f233:=cQ Tryz.func197
 f234:=cQ Tryz.func198
 f235:=cQ Tryz.func199
 f236:=cQ Tryz.func200
 f260:=cQ Tryz.func351
 f266:=cQ Tryz.func187
 f271:=cQ Tryz.func274
 t0:=Tryz.underlying0
 a0:=Tryz.isAgg0
 z0:=Tryz.sizeOf0
 v0:=Tryz.zeroValue0
 t3:=Tryz.underlying3
 a3:=Tryz.isAgg3
 z3:=Tryz.sizeOf3
 v3:=Tryz.zeroValue3
 t4:=Tryz.underlying4
 a4:=Tryz.isAgg4
 z4:=Tryz.sizeOf4
 v4:=Tryz.zeroValue4
 t5:=Tryz.underlying5
 a5:=Tryz.isAgg5
 z5:=Tryz.sizeOf5
 v5:=Tryz.zeroValue5
 t9:=Tryz.underlying9
 a9:=Tryz.isAgg9
 z9:=Tryz.sizeOf9
 v9:=Tryz.zeroValue9
 t21:=Tryz.underlying21
 a21:=Tryz.isAgg21
 z21:=Tryz.sizeOf21
 v21:=Tryz.zeroValue21
 t46:=Tryz.underlying315
 a46:=Tryz.isAgg315
 z46:=Tryz.sizeOf315
 v46:=Tryz.zeroValue315
 t105:=Tryz.underlying370
 a105:=Tryz.isAgg370
 z105:=Tryz.sizeOf370
 v105:=Tryz.zeroValue370
 t116:=Tryz.underlying304
 a116:=Tryz.isAgg304
 z116:=Tryz.sizeOf304
 t117:=Tryz.underlying305
 a117:=Tryz.isAgg305
 z117:=Tryz.sizeOf305
 v117:=Tryz.zeroValue305
 t119:=Tryz.underlying486
 a119:=Tryz.isAgg486
 z119:=Tryz.sizeOf486
 t124:=Tryz.underlying308
 a124:=Tryz.isAgg308
 z124:=Tryz.sizeOf308
 v124:=Tryz.zeroValue308
 t138:=Tryz.underlying488
 a138:=Tryz.isAgg488
 z138:=Tryz.sizeOf488
 v138:=Tryz.zeroValue488
 t139:=Tryz.underlying489
 a139:=Tryz.isAgg489
 z139:=Tryz.sizeOf489
 v139:=Tryz.zeroValue489
 g3:=by kernel_rfl
 g4:=by kernel_rfl }
def Tryz.lays137_ren:Go.Shelf.Ren:=⟨fun|137=>84|217=>140|266=>187|n=>n,fun|9=>9|5=>5|3=>3|n=>n,fun|n=>n⟩
theorem Tryz.lays137:Go.Proofs.Lays.n137 Tryz.prog Tryz.lays137_ren:={
 mixed:=by kernel_rfl
 f137:=cQ Tryz.func84
 f217:=cQ Tryz.func140
 f266:=cQ Tryz.func187
 t3:=Tryz.underlying3
 a3:=Tryz.isAgg3
 z3:=Tryz.sizeOf3
 v3:=Tryz.zeroValue3
 t5:=Tryz.underlying5
 a5:=Tryz.isAgg5
 z5:=Tryz.sizeOf5
 v5:=Tryz.zeroValue5
 t9:=Tryz.underlying9
 a9:=Tryz.isAgg9
 z9:=Tryz.sizeOf9
 v9:=Tryz.zeroValue9 }
open Go.RowKit in
theorem Tryz.strings_IndexByte(s:ByteArray)(c:Int)(w:World):Calls Tryz.prog 84 #[.string s,.int .u8 c] w λe w'=>e=.returned (.int .i64 (Lib.indexByte s.data.toList c.toNat.toUInt8))/\w'=w:=Any.strings_IndexByte Tryz.lays137 s c w
def Tryz.lays103_ren:Go.Shelf.Ren:=⟨fun|103=>159|210=>215|206=>83|n=>n,fun|9=>9|4=>4|24=>231|3=>3|n=>n,fun|n=>n⟩
theorem Tryz.lays103:Go.Proofs.Lays.n103 Tryz.prog Tryz.lays103_ren:={
 mixed:=by kernel_rfl
 f103:=cQ Tryz.func159
 f206:=cQ Tryz.func83
 f210:=cQ Tryz.func215
 t3:=Tryz.underlying3
 a3:=Tryz.isAgg3
 z3:=Tryz.sizeOf3
 v3:=Tryz.zeroValue3
 t4:=Tryz.underlying4
 a4:=Tryz.isAgg4
 z4:=Tryz.sizeOf4
 v4:=Tryz.zeroValue4
 t9:=Tryz.underlying9
 a9:=Tryz.isAgg9
 z9:=Tryz.sizeOf9
 v9:=Tryz.zeroValue9
 t24:=Tryz.underlying231
 a24:=Tryz.isAgg231
 z24:=Tryz.sizeOf231
 v24:=Tryz.zeroValue231 }
open Go.RowKit in
theorem Tryz.strings_CutPrefix(s p:ByteArray)(w:World):Calls Tryz.prog 159 #[.string s,.string p] w λe w'=>e=.returned (.tuple #[.string ⟨(Lib.trimPrefix s.data.toList p.data.toList).toArray⟩,.bool (Lib.hasPrefix s.data.toList p.data.toList)])/\w'=w:=Any.strings_CutPrefix Tryz.lays103 s p w
open Go.RowKit in
theorem Tryz.Builder_Len_f(B b:Nat)(bs:List Value)(w:World)(h:Lib.IsBuilderF 251 5 B b bs w):Calls Tryz.prog 165 #[.pointer (some ⟨b,0,none⟩)] w λe w'=>e=.returned (.int .i64 bs.length)/\w'=w:=Any.Builder_Len_f Tryz.lays170 B b bs w h
open Go.RowKit in
theorem Tryz.Builder_String_any_f(B b:Nat)(l:List UInt8)(w:World)(h:Lib.IsBuilderF 251 5 B b (Lib.byteCells l) w)(Ph:B<=w.heap.size):Calls Tryz.prog 157 #[.pointer (some ⟨b,0,none⟩)] w λe w'=>e=.returned (.string ⟨l.toArray⟩)/\(Lib.IsBuilderF 251 5 B b (Lib.byteCells l) w'/\Below B w w'):=Any.Builder_String_any_f Tryz.lays169 Tryz.Builder_Extra_169 B b l w h Ph
open Go.RowKit in
theorem Tryz.Builder_String_any_k(B b:Nat)(l:List UInt8)(w:World)(h:Lib.IsBuilderF 251 5 B b (Lib.byteCells l) w)(Ph:B<=w.heap.size):Calls Tryz.prog 157 #[.pointer (some ⟨b,0,none⟩)] w λe w'=>e=.returned (.string ⟨l.toArray⟩)/\(Lib.IsBuilderF 251 5 B b (Lib.byteCells l) w'/\Below B w w'/\Lib.OthersKept 5 (some b) w w'):=Any.Builder_String_any_k Tryz.lays169 Tryz.Builder_Extra_169 B b l w h Ph
def Tryz.laysM171_ren:Go.Shelf.Ren:=⟨fun|171=>86|243=>143|246=>193|283=>267|284=>268|285=>269|286=>270|129=>347|317=>346|318=>348|319=>349|320=>350|337=>399|338=>400|n=>n,fun|3=>3|9=>9|2=>2|4=>4|171=>366|0=>0|53=>23|37=>168|5=>5|173=>368|212=>443|51=>35|20=>20|213=>444|46=>315|232=>509|233=>510|n=>n,fun|17=>3|18=>8|19=>9|n=>n⟩
theorem Tryz.laysM171:Go.Proofs.LaysM.n171 Tryz.prog Tryz.laysM171_ren:={
 mixed:=by kernel_rfl
 f129:=cQ Tryz.func347
 f171:=cQ Tryz.func86
 f243:=cQ Tryz.func143
 f246:=cQ Tryz.func193
 f283:=cQ Tryz.func267
 f284:=cQ Tryz.func268
 f285:=cQ Tryz.func269
 f286:=cQ Tryz.func270
 f317:=cQ Tryz.func346
 f318:=cQ Tryz.func348
 f319:=cQ Tryz.func349
 f320:=cQ Tryz.func350
 f337:=cQ Tryz.func399
 f338:=cQ Tryz.func400
 t0:=Tryz.underlying0
 a0:=Tryz.isAgg0
 z0:=Tryz.sizeOf0
 v0:=Tryz.zeroValue0
 t2:=Tryz.underlying2
 a2:=Tryz.isAgg2
 z2:=Tryz.sizeOf2
 v2:=Tryz.zeroValue2
 t3:=Tryz.underlying3
 a3:=Tryz.isAgg3
 z3:=Tryz.sizeOf3
 v3:=Tryz.zeroValue3
 t4:=Tryz.underlying4
 a4:=Tryz.isAgg4
 z4:=Tryz.sizeOf4
 v4:=Tryz.zeroValue4
 t5:=Tryz.underlying5
 a5:=Tryz.isAgg5
 z5:=Tryz.sizeOf5
 v5:=Tryz.zeroValue5
 t9:=Tryz.underlying9
 a9:=Tryz.isAgg9
 z9:=Tryz.sizeOf9
 v9:=Tryz.zeroValue9
 t20:=Tryz.underlying20
 a20:=Tryz.isAgg20
 z20:=Tryz.sizeOf20
 v20:=Tryz.zeroValue20
 t37:=Tryz.underlying168
 a37:=Tryz.isAgg168
 z37:=Tryz.sizeOf168
 v37:=Tryz.zeroValue168
 t46:=Tryz.underlying315
 a46:=Tryz.isAgg315
 z46:=Tryz.sizeOf315
 v46:=Tryz.zeroValue315
 t51:=Tryz.underlying35
 a51:=Tryz.isAgg35
 z51:=Tryz.sizeOf35
 v51:=Tryz.zeroValue35
 t53:=Tryz.underlying23
 a53:=Tryz.isAgg23
 z53:=Tryz.sizeOf23
 v53:=Tryz.zeroValue23
 t171:=Tryz.underlying366
 a171:=Tryz.isAgg366
 z171:=Tryz.sizeOf366
 v171:=Tryz.zeroValue366
 t173:=Tryz.underlying368
 a173:=Tryz.isAgg368
 z173:=Tryz.sizeOf368
 v173:=Tryz.zeroValue368
 t212:=Tryz.underlying443
 a212:=Tryz.isAgg443
 z212:=Tryz.sizeOf443
 v212:=Tryz.zeroValue443
 t213:=Tryz.underlying444
 a213:=Tryz.isAgg444
 z213:=Tryz.sizeOf444
 t232:=Tryz.underlying509
 a232:=Tryz.isAgg509
 z232:=Tryz.sizeOf509
 v232:=Tryz.zeroValue509
 t233:=Tryz.underlying510
 a233:=Tryz.isAgg510
 z233:=Tryz.sizeOf510
 v233:=Tryz.zeroValue510
 g17:=by kernel_rfl
 g18:=by kernel_rfl
 g19:=by kernel_rfl
 i0:=by kernel_rfl
 i2:=by kernel_rfl
 i3:=by kernel_rfl
 i4:=by kernel_rfl
 i5:=by kernel_rfl
 i9:=by kernel_rfl
 i20:=by kernel_rfl
 i37:=by kernel_rfl
 i46:=by kernel_rfl
 i51:=by kernel_rfl
 i53:=by kernel_rfl
 i171:=by kernel_rfl
 i173:=by kernel_rfl
 i212:=by kernel_rfl
 i232:=by kernel_rfl
 i233:=by kernel_rfl
 m17:=by kernel_rfl
 m18:=by kernel_rfl
 m19:=by kernel_rfl }
open Go.RowKit Go.Sort Go.Lib in
theorem Tryz.strconv_Itoa(n:Int)(h0:-9223372036854775808<=n)(h1:n<=9223372036854775807)(w:World)(YJ:Lib.TabIs Tryz.prog w "internal/strconv.uint64pow10" .u64 Lib.pow10Tab):
  Calls Tryz.prog 86 #[.int .i64 n] w λe w'=>e=.returned (.string ⟨(Lib.itoa n).toArray⟩)/\∃k os,w'=grow (w.drewN k) os:=Any.strconv_Itoa Tryz.laysM171 n h0 h1 w YJ
def Tryz.lays321_ren:Go.Shelf.Ren:=⟨fun|321=>344|n=>n,fun|5=>5|n=>n,fun|n=>n⟩
theorem Tryz.lays321:Go.Proofs.Lays.n321 Tryz.prog Tryz.lays321_ren:={
 mixed:=by kernel_rfl
 f321:=cQ Tryz.func344
 t5:=Tryz.underlying5
 a5:=Tryz.isAgg5
 z5:=Tryz.sizeOf5
 v5:=Tryz.zeroValue5 }
open Go.RowKit in
theorem Tryz.internal_strconv_lower(c:Int)(w:World):Calls Tryz.prog 344 #[.int .u8 c] w λe w'=>e=.returned (.int .u8 (bits .or .u8 c 32))/\w'=w:=Any.internal_strconv_lower Tryz.lays321 c w
def Tryz.laysC172_ren:Go.Shelf.Ren:=⟨fun|172=>85|244=>141|245=>142|247=>188|279=>189|280=>190|281=>191|282=>192|287=>264|316=>265|171=>86|205=>266|321=>344|322=>345|243=>143|246=>193|283=>267|284=>268|285=>269|286=>270|129=>347|317=>346|318=>348|319=>349|320=>350|337=>399|338=>400|n=>n,fun|9=>9|3=>3|75=>156|76=>157|4=>4|5=>5|167=>295|37=>168|0=>0|85=>296|2=>2|168=>298|53=>23|175=>317|46=>315|210=>364|127=>314|145=>441|143=>439|21=>21|171=>366|173=>368|212=>443|51=>35|20=>20|213=>444|232=>509|233=>510|80=>185|n=>n,fun|15=>1|16=>2|17=>3|18=>8|19=>9|n=>n⟩
theorem Tryz.laysC172:Go.Proofs.LaysC.n172 Tryz.prog Tryz.laysC172_ren:={
 mixed:=by kernel_rfl
 f129:=cQ Tryz.func347
 f171:=cQ Tryz.func86
 f172:=cQ Tryz.func85
 f205:=cQ Tryz.func266
 f243:=cQ Tryz.func143
 f244:=cQ Tryz.func141
 f245:=cQ Tryz.func142
 f246:=cQ Tryz.func193
 f247:=cQ Tryz.func188
 f279:=cQ Tryz.func189
 f280:=cQ Tryz.func190
 f281:=cQ Tryz.func191
 f282:=cQ Tryz.func192
 f283:=cQ Tryz.func267
 f284:=cQ Tryz.func268
 f285:=cQ Tryz.func269
 f286:=cQ Tryz.func270
 f287:=cQ Tryz.func264
 f316:=cQ Tryz.func265
 f317:=cQ Tryz.func346
 f318:=cQ Tryz.func348
 f319:=cQ Tryz.func349
 f320:=cQ Tryz.func350
 f321:=cQ Tryz.func344
 f322:=cQ Tryz.func345
 f337:=cQ Tryz.func399
 f338:=cQ Tryz.func400
 t0:=Tryz.underlying0
 a0:=Tryz.isAgg0
 z0:=Tryz.sizeOf0
 v0:=Tryz.zeroValue0
 t2:=Tryz.underlying2
 a2:=Tryz.isAgg2
 z2:=Tryz.sizeOf2
 v2:=Tryz.zeroValue2
 t3:=Tryz.underlying3
 a3:=Tryz.isAgg3
 z3:=Tryz.sizeOf3
 v3:=Tryz.zeroValue3
 t4:=Tryz.underlying4
 a4:=Tryz.isAgg4
 z4:=Tryz.sizeOf4
 v4:=Tryz.zeroValue4
 t5:=Tryz.underlying5
 a5:=Tryz.isAgg5
 z5:=Tryz.sizeOf5
 v5:=Tryz.zeroValue5
 t9:=Tryz.underlying9
 a9:=Tryz.isAgg9
 z9:=Tryz.sizeOf9
 v9:=Tryz.zeroValue9
 t20:=Tryz.underlying20
 a20:=Tryz.isAgg20
 z20:=Tryz.sizeOf20
 v20:=Tryz.zeroValue20
 t21:=Tryz.underlying21
 a21:=Tryz.isAgg21
 z21:=Tryz.sizeOf21
 v21:=Tryz.zeroValue21
 t37:=Tryz.underlying168
 a37:=Tryz.isAgg168
 z37:=Tryz.sizeOf168
 v37:=Tryz.zeroValue168
 t46:=Tryz.underlying315
 a46:=Tryz.isAgg315
 z46:=Tryz.sizeOf315
 v46:=Tryz.zeroValue315
 t51:=Tryz.underlying35
 a51:=Tryz.isAgg35
 z51:=Tryz.sizeOf35
 v51:=Tryz.zeroValue35
 t53:=Tryz.underlying23
 a53:=Tryz.isAgg23
 z53:=Tryz.sizeOf23
 v53:=Tryz.zeroValue23
 t75:=Tryz.underlying156
 a75:=Tryz.isAgg156
 z75:=Tryz.sizeOf156
 v75:=Tryz.zeroValue156
 t76:=Tryz.underlying157
 a76:=Tryz.isAgg157
 z76:=Tryz.sizeOf157
 v76:=Tryz.zeroValue157
 t85:=Tryz.underlying296
 a85:=Tryz.isAgg296
 z85:=Tryz.sizeOf296
 v85:=Tryz.zeroValue296
 t127:=Tryz.underlying314
 a127:=Tryz.isAgg314
 z127:=Tryz.sizeOf314
 v127:=Tryz.zeroValue314
 t143:=Tryz.underlying439
 a143:=Tryz.isAgg439
 z143:=Tryz.sizeOf439
 v143:=Tryz.zeroValue439
 t145:=Tryz.underlying441
 a145:=Tryz.isAgg441
 z145:=Tryz.sizeOf441
 v145:=Tryz.zeroValue441
 t167:=Tryz.underlying295
 a167:=Tryz.isAgg295
 z167:=Tryz.sizeOf295
 v167:=Tryz.zeroValue295
 t168:=Tryz.underlying298
 a168:=Tryz.isAgg298
 z168:=Tryz.sizeOf298
 v168:=Tryz.zeroValue298
 t171:=Tryz.underlying366
 a171:=Tryz.isAgg366
 z171:=Tryz.sizeOf366
 v171:=Tryz.zeroValue366
 t173:=Tryz.underlying368
 a173:=Tryz.isAgg368
 z173:=Tryz.sizeOf368
 v173:=Tryz.zeroValue368
 t175:=Tryz.underlying317
 a175:=Tryz.isAgg317
 z175:=Tryz.sizeOf317
 v175:=Tryz.zeroValue317
 t210:=Tryz.underlying364
 a210:=Tryz.isAgg364
 z210:=Tryz.sizeOf364
 v210:=Tryz.zeroValue364
 t212:=Tryz.underlying443
 a212:=Tryz.isAgg443
 z212:=Tryz.sizeOf443
 v212:=Tryz.zeroValue443
 t213:=Tryz.underlying444
 a213:=Tryz.isAgg444
 z213:=Tryz.sizeOf444
 t232:=Tryz.underlying509
 a232:=Tryz.isAgg509
 z232:=Tryz.sizeOf509
 v232:=Tryz.zeroValue509
 t233:=Tryz.underlying510
 a233:=Tryz.isAgg510
 z233:=Tryz.sizeOf510
 v233:=Tryz.zeroValue510
 g15:=by kernel_rfl
 g16:=by kernel_rfl
 g17:=by kernel_rfl
 g18:=by kernel_rfl
 g19:=by kernel_rfl
 t80:=Tryz.underlying185
 a80:=Tryz.isAgg185
 z80:=Tryz.sizeOf185
 v80:=Tryz.zeroValue185
 i0:=by kernel_rfl
 i2:=by kernel_rfl
 i3:=by kernel_rfl
 i4:=by kernel_rfl
 i5:=by kernel_rfl
 i9:=by kernel_rfl
 i20:=by kernel_rfl
 i21:=by kernel_rfl
 i37:=by kernel_rfl
 i46:=by kernel_rfl
 i51:=by kernel_rfl
 i53:=by kernel_rfl
 i75:=by kernel_rfl
 i76:=by kernel_rfl
 i80:=by kernel_rfl
 i85:=by kernel_rfl
 i127:=by kernel_rfl
 i143:=by kernel_rfl
 i145:=by kernel_rfl
 i167:=by kernel_rfl
 i168:=by kernel_rfl
 i171:=by kernel_rfl
 i173:=by kernel_rfl
 i175:=by kernel_rfl
 i210:=by kernel_rfl
 i212:=by kernel_rfl
 i232:=by kernel_rfl
 i233:=by kernel_rfl
 m15:=by kernel_rfl
 m16:=by kernel_rfl
 m17:=by kernel_rfl
 m18:=by kernel_rfl
 m19:=by kernel_rfl
 c0:=by kernel_rfl
 c2:=by kernel_rfl
 c3:=by kernel_rfl
 c4:=by kernel_rfl
 c5:=by kernel_rfl
 c9:=by kernel_rfl
 c20:=by kernel_rfl
 c21:=by kernel_rfl
 c37:=by kernel_rfl
 c46:=by kernel_rfl
 c51:=by kernel_rfl
 c53:=by kernel_rfl
 c75:=by kernel_rfl
 c76:=by kernel_rfl
 c80:=by kernel_rfl
 c85:=by kernel_rfl
 c127:=by kernel_rfl
 c143:=by kernel_rfl
 c145:=by kernel_rfl
 c167:=by kernel_rfl
 c168:=by kernel_rfl
 c171:=by kernel_rfl
 c173:=by kernel_rfl
 c175:=by kernel_rfl
 c210:=by kernel_rfl
 c212:=by kernel_rfl
 c213:=by kernel_rfl
 c232:=by kernel_rfl
 c233:=by kernel_rfl }
open Go.RowKit in
theorem Tryz.strconv_Atoi_ok(s:ByteArray)(US:s.size<=9223372036854775806)(v:Int)(h:Lib.atoiAll s.data.toList=.ok v)(w:World):Calls Tryz.prog 85 #[.string s] w λe w'=>e=.returned (.tuple #[.int .i64 v,.nilIface])/\(w'=w\/∃t,w'=Lib.bytesWorld w 5 t):=Any.strconv_Atoi_ok Tryz.laysC172 s US v h w
open Go.RowKit in
theorem Tryz.strconv_Atoi_syntax_var(s:ByteArray)(YX:s.size<=281474976710656)(h:Lib.atoiAll s.data.toList=Lib.atoiAll [])(tp:TypeId)(p:Value)(w:World)(UK:w.var? Tryz.prog "strconv.ErrSyntax"=some #[.iface tp p]):
  Calls Tryz.prog 85 #[.string s] w λe w'=>∃N,e=.returned (.tuple #[.int .i64 0,.iface 298 (.pointer (some ⟨N,0,none⟩))])/\w.heap.size<=N/\w'.heap[N]?=some (.cells #[.string ⟨#[65,116,111,105]⟩,.string s,.iface tp p] 364 (0,0))/\Below w.heap.size w w':=Any.strconv_Atoi_syntax_var Tryz.laysC172 s YX h tp p w UK
open Go.RowKit in
theorem Tryz.strconv_Atoi_range_var(s:ByteArray)(YX:s.size<=281474976710656)(h:Lib.atoiAll s.data.toList=.range)(tp:TypeId)(p:Value)(w:World)(UK:w.var? Tryz.prog "strconv.ErrRange"=some #[.iface tp p]):
  Calls Tryz.prog 85 #[.string s] w λe w'=>∃N,e=.returned (.tuple #[.int .i64 (Lib.atoiSat s.data.toList),.iface 298 (.pointer (some ⟨N,0,none⟩))])/\w.heap.size<=N/\w'.heap[N]?=some (.cells #[.string ⟨#[65,116,111,105]⟩,.string s,.iface tp p] 364 (0,0))/\Below w.heap.size w w':=Any.strconv_Atoi_range_var Tryz.laysC172 s YX h tp p w UK
def Tryz.lays143_ren:Go.Shelf.Ren:=⟨fun|143=>100|219=>158|217=>140|225=>212|224=>213|267=>214|266=>187|314=>281|n=>n,fun|9=>9|3=>3|4=>4|5=>5|46=>315|146=>380|51=>35|n=>n,fun|1=>0|n=>n⟩
theorem Tryz.lays143:Go.Proofs.Lays.n143 Tryz.prog Tryz.lays143_ren:={
 mixed:=by kernel_rfl
 f143:=cQ Tryz.func100
 f217:=cQ Tryz.func140
 f219:=cQ Tryz.func158
 f224:=cQ Tryz.func213
 f225:=cQ Tryz.func212
 f266:=cQ Tryz.func187
 f267:=cQ Tryz.func214
 f314:=cQ Tryz.func281
 t3:=Tryz.underlying3
 a3:=Tryz.isAgg3
 z3:=Tryz.sizeOf3
 v3:=Tryz.zeroValue3
 t4:=Tryz.underlying4
 a4:=Tryz.isAgg4
 z4:=Tryz.sizeOf4
 v4:=Tryz.zeroValue4
 t5:=Tryz.underlying5
 a5:=Tryz.isAgg5
 z5:=Tryz.sizeOf5
 v5:=Tryz.zeroValue5
 t9:=Tryz.underlying9
 a9:=Tryz.isAgg9
 z9:=Tryz.sizeOf9
 v9:=Tryz.zeroValue9
 t46:=Tryz.underlying315
 a46:=Tryz.isAgg315
 z46:=Tryz.sizeOf315
 v46:=Tryz.zeroValue315
 t51:=Tryz.underlying35
 a51:=Tryz.isAgg35
 z51:=Tryz.sizeOf35
 v51:=Tryz.zeroValue35
 t146:=Tryz.underlying380
 a146:=Tryz.isAgg380
 z146:=Tryz.sizeOf380
 v146:=Tryz.zeroValue380
 g1:=by kernel_rfl }
open Go.RowKit Go.Lib in
theorem Tryz.strings_Index(s sub:ByteArray)(m:Int)(w:World)(hs:s.size<4294967281)(hm:w.cell? ⟨0,0,none⟩=some (.int .i64 m)):Calls Tryz.prog 100 #[.string s,.string sub] w λe w'=>e=.returned (.int .i64 (Lib.index s.data.toList sub.data.toList))/\w'=w:=Any.strings_Index Tryz.lays143 s sub m w hs hm
def Tryz.lays144_ren:Go.Shelf.Ren:=⟨fun|144=>203|143=>100|219=>158|217=>140|225=>212|224=>213|267=>214|266=>187|314=>281|n=>n,fun|9=>9|4=>4|3=>3|5=>5|46=>315|146=>380|51=>35|n=>n,fun|1=>0|n=>n⟩
theorem Tryz.lays144:Go.Proofs.Lays.n144 Tryz.prog Tryz.lays144_ren:={
 mixed:=by kernel_rfl
 f143:=cQ Tryz.func100
 f144:=cQ Tryz.func203
 f217:=cQ Tryz.func140
 f219:=cQ Tryz.func158
 f224:=cQ Tryz.func213
 f225:=cQ Tryz.func212
 f266:=cQ Tryz.func187
 f267:=cQ Tryz.func214
 f314:=cQ Tryz.func281
 t3:=Tryz.underlying3
 a3:=Tryz.isAgg3
 z3:=Tryz.sizeOf3
 v3:=Tryz.zeroValue3
 t4:=Tryz.underlying4
 a4:=Tryz.isAgg4
 z4:=Tryz.sizeOf4
 v4:=Tryz.zeroValue4
 t5:=Tryz.underlying5
 a5:=Tryz.isAgg5
 z5:=Tryz.sizeOf5
 v5:=Tryz.zeroValue5
 t9:=Tryz.underlying9
 a9:=Tryz.isAgg9
 z9:=Tryz.sizeOf9
 v9:=Tryz.zeroValue9
 t46:=Tryz.underlying315
 a46:=Tryz.isAgg315
 z46:=Tryz.sizeOf315
 v46:=Tryz.zeroValue315
 t51:=Tryz.underlying35
 a51:=Tryz.isAgg35
 z51:=Tryz.sizeOf35
 v51:=Tryz.zeroValue35
 t146:=Tryz.underlying380
 a146:=Tryz.isAgg380
 z146:=Tryz.sizeOf380
 v146:=Tryz.zeroValue380
 g1:=by kernel_rfl }
open Go.RowKit Go.Lib in
theorem Tryz.strings_Contains(s sub:ByteArray)(m:Int)(w:World)(hs:s.size<4294967281)(hm:w.cell? ⟨0,0,none⟩=some (.int .i64 m)):Calls Tryz.prog 203 #[.string s,.string sub] w λe w'=>e=.returned (.bool (Lib.contains s.data.toList sub.data.toList))/\w'=w:=Any.strings_Contains Tryz.lays144 s sub m w hs hm
def Tryz.lays145_ren:Go.Shelf.Ren:=⟨fun|145=>71|220=>110|219=>158|217=>140|225=>212|224=>213|267=>214|266=>187|314=>281|n=>n,fun|9=>9|4=>4|59=>142|3=>3|5=>5|46=>315|146=>380|51=>35|n=>n,fun|1=>0|n=>n⟩
theorem Tryz.lays145:Go.Proofs.Lays.n145 Tryz.prog Tryz.lays145_ren:={
 mixed:=by kernel_rfl
 f145:=cQ Tryz.func71
 f217:=cQ Tryz.func140
 f219:=cQ Tryz.func158
 f220:=cQ Tryz.func110
 f224:=cQ Tryz.func213
 f225:=cQ Tryz.func212
 f266:=cQ Tryz.func187
 f267:=cQ Tryz.func214
 f314:=cQ Tryz.func281
 t3:=Tryz.underlying3
 a3:=Tryz.isAgg3
 z3:=Tryz.sizeOf3
 v3:=Tryz.zeroValue3
 t4:=Tryz.underlying4
 a4:=Tryz.isAgg4
 z4:=Tryz.sizeOf4
 v4:=Tryz.zeroValue4
 t5:=Tryz.underlying5
 a5:=Tryz.isAgg5
 z5:=Tryz.sizeOf5
 v5:=Tryz.zeroValue5
 t9:=Tryz.underlying9
 a9:=Tryz.isAgg9
 z9:=Tryz.sizeOf9
 v9:=Tryz.zeroValue9
 t46:=Tryz.underlying315
 a46:=Tryz.isAgg315
 z46:=Tryz.sizeOf315
 v46:=Tryz.zeroValue315
 t51:=Tryz.underlying35
 a51:=Tryz.isAgg35
 z51:=Tryz.sizeOf35
 v51:=Tryz.zeroValue35
 t59:=Tryz.underlying142
 a59:=Tryz.isAgg142
 z59:=Tryz.sizeOf142
 v59:=Tryz.zeroValue142
 t146:=Tryz.underlying380
 a146:=Tryz.isAgg380
 z146:=Tryz.sizeOf380
 v146:=Tryz.zeroValue380
 g1:=by kernel_rfl }
open Go.RowKit Go.Lib in
theorem Tryz.strings_Cut(s sep:ByteArray)(m:Int)(w:World)(hs:s.size<4294967281)(hm:w.cell? ⟨0,0,none⟩=some (.int .i64 m)):Calls Tryz.prog 71 #[.string s,.string sep] w λe w'=>e=.returned (.tuple #[.string ⟨(Lib.cut s.data.toList sep.data.toList).1.toArray⟩,.string ⟨(Lib.cut s.data.toList sep.data.toList).2.1.toArray⟩,.bool (Lib.cut s.data.toList sep.data.toList).2.2])/\∃n,w'=w.drewN n:=Any.strings_Cut Tryz.lays145 s sep m w hs hm
def Tryz.lays99_ren:Go.Shelf.Ren:=⟨fun|99=>34|206=>83|n=>n,fun|9=>9|4=>4|3=>3|n=>n,fun|n=>n⟩
theorem Tryz.lays99:Go.Proofs.Lays.n99 Tryz.prog Tryz.lays99_ren:={
 mixed:=by kernel_rfl
 f99:=cQ Tryz.func34
 f206:=cQ Tryz.func83
 t3:=Tryz.underlying3
 a3:=Tryz.isAgg3
 z3:=Tryz.sizeOf3
 v3:=Tryz.zeroValue3
 t4:=Tryz.underlying4
 a4:=Tryz.isAgg4
 z4:=Tryz.sizeOf4
 v4:=Tryz.zeroValue4
 t9:=Tryz.underlying9
 a9:=Tryz.isAgg9
 z9:=Tryz.sizeOf9
 v9:=Tryz.zeroValue9 }
open Go.RowKit Go.Lib in
theorem Tryz.strings_HasPrefix(s p:ByteArray)(w:World):Calls Tryz.prog 34 #[.string s,.string p] w λe w'=>e=.returned (.bool (Lib.hasPrefix s.data.toList p.data.toList))/\w'=w:=Any.strings_HasPrefix Tryz.lays99 s p w
def Tryz.lays157_ren:Go.Shelf.Ren:=⟨fun|157=>355|229=>68|199=>402|261=>418|311=>443|312=>444|n=>n,fun|9=>9|31=>30|3=>3|5=>5|4=>4|119=>486|0=>0|40=>141|152=>196|21=>21|154=>198|51=>35|141=>512|196=>527|193=>524|198=>530|49=>528|194=>525|201=>533|226=>541|46=>315|227=>542|n=>n,fun|0=>6|6=>10|n=>n⟩
theorem Tryz.lays157:Go.Proofs.Lays.n157 Tryz.prog Tryz.lays157_ren:={
 mixed:=by kernel_rfl
 f157:=cQ Tryz.func355
 f199:=cQ Tryz.func402
 f229:=cQ Tryz.func68
 f261:=cQ Tryz.func418
 f311:=cQ Tryz.func443
 f312:=cQ Tryz.func444
 t0:=Tryz.underlying0
 a0:=Tryz.isAgg0
 z0:=Tryz.sizeOf0
 v0:=Tryz.zeroValue0
 t3:=Tryz.underlying3
 a3:=Tryz.isAgg3
 z3:=Tryz.sizeOf3
 v3:=Tryz.zeroValue3
 t4:=Tryz.underlying4
 a4:=Tryz.isAgg4
 z4:=Tryz.sizeOf4
 v4:=Tryz.zeroValue4
 t5:=Tryz.underlying5
 a5:=Tryz.isAgg5
 z5:=Tryz.sizeOf5
 v5:=Tryz.zeroValue5
 t9:=Tryz.underlying9
 a9:=Tryz.isAgg9
 z9:=Tryz.sizeOf9
 v9:=Tryz.zeroValue9
 t21:=Tryz.underlying21
 a21:=Tryz.isAgg21
 z21:=Tryz.sizeOf21
 v21:=Tryz.zeroValue21
 t31:=Tryz.underlying30
 a31:=Tryz.isAgg30
 z31:=Tryz.sizeOf30
 v31:=Tryz.zeroValue30
 t40:=Tryz.underlying141
 a40:=Tryz.isAgg141
 z40:=Tryz.sizeOf141
 v40:=Tryz.zeroValue141
 t46:=Tryz.underlying315
 a46:=Tryz.isAgg315
 z46:=Tryz.sizeOf315
 v46:=Tryz.zeroValue315
 t49:=Tryz.underlying528
 a49:=Tryz.isAgg528
 z49:=Tryz.sizeOf528
 v49:=Tryz.zeroValue528
 t51:=Tryz.underlying35
 a51:=Tryz.isAgg35
 z51:=Tryz.sizeOf35
 v51:=Tryz.zeroValue35
 t119:=Tryz.underlying486
 a119:=Tryz.isAgg486
 z119:=Tryz.sizeOf486
 t141:=Tryz.underlying512
 a141:=Tryz.isAgg512
 z141:=Tryz.sizeOf512
 v141:=Tryz.zeroValue512
 t152:=Tryz.underlying196
 a152:=Tryz.isAgg196
 z152:=Tryz.sizeOf196
 v152:=Tryz.zeroValue196
 t154:=Tryz.underlying198
 a154:=Tryz.isAgg198
 z154:=Tryz.sizeOf198
 v154:=Tryz.zeroValue198
 t193:=Tryz.underlying524
 a193:=Tryz.isAgg524
 z193:=Tryz.sizeOf524
 v193:=Tryz.zeroValue524
 t194:=Tryz.underlying525
 a194:=Tryz.isAgg525
 z194:=Tryz.sizeOf525
 v194:=Tryz.zeroValue525
 t196:=Tryz.underlying527
 a196:=Tryz.isAgg527
 z196:=Tryz.sizeOf527
 v196:=Tryz.zeroValue527
 t198:=Tryz.underlying530
 a198:=Tryz.isAgg530
 z198:=Tryz.sizeOf530
 v198:=Tryz.zeroValue530
 t201:=Tryz.underlying533
 a201:=Tryz.isAgg533
 z201:=Tryz.sizeOf533
 v201:=Tryz.zeroValue533
 t226:=Tryz.underlying541
 a226:=Tryz.isAgg541
 z226:=Tryz.sizeOf541
 v226:=Tryz.zeroValue541
 t227:=Tryz.underlying542
 a227:=Tryz.isAgg542
 z227:=Tryz.sizeOf542
 v227:=Tryz.zeroValue542
 g0:=by kernel_rfl
 g6:=by kernel_rfl }
open Go.RowKit Go.Lib in
theorem Tryz.strings_Fields(s:ByteArray)(w:World)(hs:s.size<4294967281)(hascii:∀(j:Nat) b,s.data.toList[j]?=some b->b.toNat<128)(YJ:Lib.TabIs Tryz.prog w "strings.asciiSpace" .u8 Lib.asciiSpaceTab):
  Calls Tryz.prog 355 #[.string s] w λe w'=>e=.returned (.slice (some ⟨w.heap.size,0,none⟩) (Lib.fields s.data.toList).length (Lib.fields s.data.toList).length)/\w'=w.alloc (.cells ((Lib.fields s.data.toList).map λl=>Value.string ⟨l.toArray⟩).toArray 9):=Any.strings_Fields Tryz.lays157 (by kernel_rfl) (by kernel_rfl) s w hs hascii YJ
def Tryz.lays229_ren:Go.Shelf.Ren:=⟨fun|229=>68|n=>n,fun|9=>9|40=>141|31=>30|152=>196|3=>3|0=>0|4=>4|21=>21|154=>198|n=>n,fun|n=>n⟩
theorem Tryz.lays229:Go.Proofs.Lays.n229 Tryz.prog Tryz.lays229_ren:={
 mixed:=by kernel_rfl
 f229:=cQ Tryz.func68
 t0:=Tryz.underlying0
 a0:=Tryz.isAgg0
 z0:=Tryz.sizeOf0
 v0:=Tryz.zeroValue0
 t3:=Tryz.underlying3
 a3:=Tryz.isAgg3
 z3:=Tryz.sizeOf3
 v3:=Tryz.zeroValue3
 t4:=Tryz.underlying4
 a4:=Tryz.isAgg4
 z4:=Tryz.sizeOf4
 v4:=Tryz.zeroValue4
 t9:=Tryz.underlying9
 a9:=Tryz.isAgg9
 z9:=Tryz.sizeOf9
 v9:=Tryz.zeroValue9
 t21:=Tryz.underlying21
 a21:=Tryz.isAgg21
 z21:=Tryz.sizeOf21
 v21:=Tryz.zeroValue21
 t31:=Tryz.underlying30
 a31:=Tryz.isAgg30
 z31:=Tryz.sizeOf30
 v31:=Tryz.zeroValue30
 t40:=Tryz.underlying141
 a40:=Tryz.isAgg141
 z40:=Tryz.sizeOf141
 v40:=Tryz.zeroValue141
 t152:=Tryz.underlying196
 a152:=Tryz.isAgg196
 z152:=Tryz.sizeOf196
 v152:=Tryz.zeroValue196
 t154:=Tryz.underlying198
 a154:=Tryz.isAgg198
 z154:=Tryz.sizeOf198
 v154:=Tryz.zeroValue198 }
open Go.RowKit Go.Lib in
theorem Tryz.strings_FieldsFunc_runes(g:Nat)(lb:Array Value)(eg:∀args w,(callFunc g args).run Tryz.prog w=.ok (.enter g args) w)(p:Nat->Bool)(s:ByteArray)(w:World)(hs:s.size<=4294967296)(hp:PredAtRunes Tryz.prog g lb p w):Calls Tryz.prog 68 #[.string s,.func (.func g) #[] lb] w λe w'=>∃A,e=.returned (.slice (some ⟨A,0,none⟩) (Lib.goFieldsP p s).length (Lib.goFieldsP p s).length)/\w.heap.size<=A ∧ w'.ownsRow w.heap.size 9 1 (.slice (some ⟨A,0,none⟩) (Lib.goFieldsP p s).length (Lib.goFieldsP p s).length) (Lib.goFieldsP p s).length ((Lib.goFieldsP p s).map Value.string)/\Below w.heap.size w w':=Any.strings_FieldsFunc_runes Tryz.lays229 g lb eg p s w hs hp (by kernel_rfl) (by kernel_rfl)
def Tryz.lays107_ren:Go.Shelf.Ren:=⟨fun|107=>297|108=>364|n=>n,fun|28=>316|3=>3|4=>4|0=>0|n=>n,fun|n=>n⟩
theorem Tryz.lays107:Go.Proofs.Lays.n107 Tryz.prog Tryz.lays107_ren:={
 mixed:=by kernel_rfl
 f107:=cQ Tryz.func297
 f108:=cQ Tryz.func364
 t0:=Tryz.underlying0
 a0:=Tryz.isAgg0
 z0:=Tryz.sizeOf0
 v0:=Tryz.zeroValue0
 t3:=Tryz.underlying3
 a3:=Tryz.isAgg3
 z3:=Tryz.sizeOf3
 v3:=Tryz.zeroValue3
 t4:=Tryz.underlying4
 a4:=Tryz.isAgg4
 z4:=Tryz.sizeOf4
 v4:=Tryz.zeroValue4
 t28:=Tryz.underlying316
 a28:=Tryz.isAgg316
 z28:=Tryz.sizeOf316
 v28:=Tryz.zeroValue316 }
open Go.Lib in
theorem Tryz.slices_Contains_int(b off n c:Nat)(zs:List Int)(x:Int)(w:World)(hz:n<=zs.length)(RB:n<=9223372036854775807)(hc:∀j,j<zs.length->w.cell? ⟨b,off+j,none⟩=some (.int .i64 (zs.getD j 0))):Calls Tryz.prog 297 #[.slice (some ⟨b,off,none⟩) n c,.int .i64 x] w λe w'=>e=.returned (.bool ((zs.take n).contains x))/\w'=w:=Any.slices_Contains_int Tryz.lays107 b off n c zs x w hz RB hc
def Tryz.lays110_ren:Go.Shelf.Ren:=⟨fun|110=>42|109=>95|n=>n,fun|31=>30|9=>9|4=>4|3=>3|0=>0|n=>n,fun|n=>n⟩
theorem Tryz.lays110:Go.Proofs.Lays.n110 Tryz.prog Tryz.lays110_ren:={
 mixed:=by kernel_rfl
 f109:=cQ Tryz.func95
 f110:=cQ Tryz.func42
 t0:=Tryz.underlying0
 a0:=Tryz.isAgg0
 z0:=Tryz.sizeOf0
 v0:=Tryz.zeroValue0
 t3:=Tryz.underlying3
 a3:=Tryz.isAgg3
 z3:=Tryz.sizeOf3
 v3:=Tryz.zeroValue3
 t4:=Tryz.underlying4
 a4:=Tryz.isAgg4
 z4:=Tryz.sizeOf4
 v4:=Tryz.zeroValue4
 t9:=Tryz.underlying9
 a9:=Tryz.isAgg9
 z9:=Tryz.sizeOf9
 v9:=Tryz.zeroValue9
 t31:=Tryz.underlying30
 a31:=Tryz.isAgg30
 z31:=Tryz.sizeOf30
 v31:=Tryz.zeroValue30 }
open Go.Lib in
theorem Tryz.slices_Contains_string(b off n c:Nat)(zs:List ByteArray)(x:ByteArray)(w:World)(hz:n<=zs.length)(RB:n<=9223372036854775807)(hc:∀j,j<zs.length->w.cell? ⟨b,off+j,none⟩=some (.string (zs.getD j ByteArray.empty))):Calls Tryz.prog 42 #[.slice (some ⟨b,off,none⟩) n c,.string x] w λe w'=>e=.returned (.bool (Lib.containsS (zs.take n) x))/\w'=w:=Any.slices_Contains_string Tryz.lays110 b off n c zs x w hz RB hc
open Go.Lib in
theorem Tryz.slices_Contains_string_empty(a:Option Addr)(c:Nat)(x:ByteArray)(w:World):Calls Tryz.prog 42 #[.slice a 0 c,.string x] w λe w'=>e=.returned (.bool false)/\w'=w:=Any.slices_Contains_string_empty Tryz.lays110 a c x w
end Go.Proofs
namespace Go.Proofs.YtdbjnlkbhhebbaaGreatDoor
open Go.RowKit
variable {ops:Array Oper}{s:ByteArray}{Q:Exit->Act->World->Prop}{ls:List (List UInt8)}{xs:List Value}{B cap m:Nat}{o:Oper}{A a:Option Addr}{T:TypeId}{w w':World}
def iy(s:ByteArray)(k:Nat):ByteArray:=⟨((s.data.toList.take k).map jc++s.data.toList.drop k).toArray⟩
theorem eS(s:ByteArray)(k:Nat):(iy s k).size=s.size:=by unfold iy;rw[Lib.size_eq,Lib.size_eq];simp only[List.length_append,List.length_map,List.length_take,List.length_drop];omega
theorem BP(s:ByteArray):iy s 0=s:=by unfold iy;simp
theorem EK(s:ByteArray):iy s s.size=⟨(ai s.data.toList).toArray⟩:=by unfold iy ai;rw[eH s _ (Nat.le_refl _),mP s _ (Nat.le_refl _),List.append_nil]
theorem nl(s:ByteArray)(k j:Nat)(h:j<s.size)(h':j<(iy s k).size):(iy s k)[j]=if j<k then jc s[j]else s[j]:=by
 have hl:j<((s.data.toList.take k).map jc++s.data.toList.drop k).length:=by rw[List.length_append,List.length_map,List.length_take,List.length_drop,<-Lib.size_eq];omega
 rw[Mt (iy s k) _ rfl j h' hl,jm s j h];by_cases hk:j<k
 ·rw[if_pos hk,List.getElem_append_left (by rw[List.length_map,List.length_take,<-Lib.size_eq];omega)];simp only[List.getElem_map,List.getElem_take]
 ·rw[if_neg hk,List.getElem_append_right (by rw[List.length_map,List.length_take,<-Lib.size_eq];omega)];simp only[List.getElem_drop];congr 1
  rw[List.length_map,List.length_take,<-Lib.size_eq];omega
structure jB(b:Nat)(s:ByteArray)(w:World):Prop where
 cells:Lib.Bytes w b 0 s
 free:∀i,i<s.size->w.frozen? ⟨b,i,none⟩=false
theorem jB.fresh(s:ByteArray)(cap:Nat)(w:World):jB w.heap.size s (w.alloc (.cells (bytesRow s cap) 5 ((bytesRow s cap).size,(bytesRow s cap).size+1))):=by
 refine⟨λi h=>?_,λi h=>?_⟩
 ·rw[Nat.zero_add,World.cell?_alloc_mark,bytesRow_at s cap i h];rfl
 ·rw[World.frozen?_alloc_mark];have:s.size<=(bytesRow s cap).size:=by unfold bytesRow;simp
  simp;omega
theorem jB.drew{b:Nat}(h:jB b s w):jB b s w.drew:=⟨λi hi=>h.cells i hi,λi hi=>h.free i hi⟩
theorem jB.same{b k:Nat}(h:jB b (iy s k) w)(hk:k<s.size)(e:jc s[k]=s[k]):jB b (iy s (k+1)) w:=by
 refine⟨λi hi=>?_,λi hi=>h.free i (by rw[eS]at*;exact hi)⟩;have U9:i<s.size:=by rw[eS]at hi;exact hi
 rw[h.cells i (by rw[eS];exact U9),nl s k i U9,nl s (k+1) i U9];by_cases h1:i<k
 ·rw[if_pos h1,if_pos (by omega)]
 ·rw[if_neg h1];by_cases h2:i=k
  ·subst h2;rw[if_pos (by omega),e]
  ·rw[if_neg (by omega)]
theorem jB.put{b k:Nat}(h:jB b (iy s k) w)(hk:k<s.size){n:Int}(e:((jc s[k]).toNat:Int)=n):jB b (iy s (k+1)) (w.setCell ⟨b,k,none⟩ (.int .u8 n)):=by
 refine⟨λi hi=>?_,λi hi=>?_⟩
 ·have U9:i<s.size:=by rw[eS]at hi;exact hi
  have hc:=h.cells i (by rw[eS];exact U9);rw[Nat.zero_add]at hc ⊢;rw[nl s (k+1) i U9];by_cases h2:i=k
  ·subst h2;rw[World.cell?_setCell_same _ _ _ hc,if_pos (by omega),e]
  ·rw[World.cell?_setCell_other _ _ _ _ (by intro e;cases e;exact h2 rfl),hc,nl s k i U9];by_cases h1:i<k
   ·rw[if_pos h1,if_pos (by omega)]
   ·rw[if_neg h1,if_neg (by omega)]
 ·rw[World.frozen?_setCell];exact h.free i (by rw[eS]at*;exact hi)
theorem jB.at{b k:Nat}(h:jB b (iy s k) w)(hk:k<s.size):w.cell? ⟨b,k,none⟩=some (.int .u8 s[k].toNat):=by have hc:=h.cells k (by rw[eS];exact hk);rw[Nat.zero_add]at hc;rw[hc,nl s k k hk,if_neg (by omega)]
theorem DJ(c:UInt8)(h:(decide (65<=(c.toNat:Int))&&decide ((c.toNat:Int)<=90))=false):jc c=c:=by
 have:(decide (65<=c.toNat)&&decide (c.toNat<=90))=false:=by rw[<-h,Bool.eq_iff_iff];simp;omega
 unfold jc;rw[this];rfl
theorem IQ(c:UInt8)(h1:decide (65<=(c.toNat:Int))=true)(h2:decide ((c.toNat:Int)<=90)=true):((jc c).toNat:Int)=(c.toNat:Int)+32:=by
 have:(decide (65<=c.toNat)&&decide (c.toNat<=90))=true:=by simp at*;omega
 unfold jc;rw[this,cond_true];have:c.toNat<=90:=by simp at h2;omega
 rw[UInt8.toNat_add];simp;omega
theorem n_(s:ByteArray)(w:World)(hs:s.size<=140737488351232):Calls Tryz.prog 43 #[.string s] w λe w'=>e=.returned (.string ⟨(ai s.data.toList).toArray⟩)/\Below w.heap.size w w':=by
 have hcv:=run_bytes_of_string (P:=Tryz.prog) w 9 168 5 s Tryz.underlying9 Tryz.underlying168 Tryz.underlying5;have hfr:=jB.fresh s (grownCap w s.size 0 5) w;have Nx:Below w.heap.size w (w.alloc (.cells (bytesRow s (grownCap w s.size 0 5)) 5 ((bytesRow s (grownCap w s.size 0 5)).size,(bytesRow s (grownCap w s.size 0 5)).size+1))):=(Below.refl _ w).alloc (Nat.le_refl _) _;generalize grownCap w s.size 0 5=cap at*;generalize Obj.cells (bytesRow s cap) 5 ((bytesRow s cap).size,(bytesRow s cap).size+1)=row at*;obtain⟨HF,HL⟩:=az hfr Nx;clear hfr Nx;go_enter Tryz.func43,Tryz.ntmps43
 go_wp2;clear hcv;go_loopw [9] (λi wr=>∃k:Nat,k<=s.size/\i=.int .i64 k/\jB w.heap.size (iy s k) wr/\Below w.heap.size w wr) (λi _=>s.size-(intOf i).toNat)
 case atStart=>exact⟨0,Nat.zero_le _,rfl,by rw[BP];exact HF.out.drew,HL.out.drew⟩
 case round=>
  obtain⟨k,hk,rfl,hR,M_⟩:=hrel;have HR:=ah hR;clear hR;by_cases Nc:k<s.size
  ·have hc:=HR.out.at Nc;have hz:=HR.out.free k (by rw[eS];exact Nc);have hu:=qI s[k]
   cases c1:decide (65<=(s[k].toNat:Int))<;>cases c2:decide ((s[k].toNat:Int)<=90)
   ·exfalso;simp at c1 c2;omega
   ·have hl:=DJ s[k] (by rw[c1,c2];rfl);have Hl:=ah hl;clear hl;go_wp2;go_roundw
    case rel=>exact⟨k+1,by omega,by go_num,HR.out.same Nc Hl.out,M_⟩
    case measure=>simp[intOf];omega
   ·have hl:=DJ s[k] (by rw[c1,c2];rfl);have Hl:=ah hl;clear hl;go_wp2;go_roundw
    case rel=>exact⟨k+1,by omega,by go_num,HR.out.same Nc Hl.out,M_⟩
    case measure=>simp[intOf];omega
   ·have hl:=IQ s[k] c1 c2;have Hl:=ah hl;clear hl;have U_:(s[k].toNat:Int)<=90:=by simp at c2;omega
    go_wp2;go_roundw
    case rel=>exact⟨k+1,by omega,by go_num,HR.out.put Nc Hl.out,M_.setCell (Nat.le_refl _) _⟩
    case measure=>simp[intOf];omega
  ·have NI:k=s.size:=by omega
   have hb:=Lib.run_convert_whole (P:=Tryz.prog) wr 168 5 9 Tryz.underlying168 Tryz.underlying5 Tryz.underlying9 w.heap.size 0 (iy s k) HR.out.cells cap;rw[eS]at hb;have Nn:iy s k=⟨(ai s.data.toList).toArray⟩:=by rw[NI,EK]
   have Hf:=ah Nn;clear Nn;generalize iy s k=t at*;have Hke:=ah NI;clear NI;go_wp2;go_ret;exact⟨by rw[<-Hf.out];rfl,M_⟩
theorem ju(s:ByteArray)(w:World)(hs:s.size<=1000000):Calls Tryz.prog 43 #[.string s] w λe w'=>e=.returned (.string ⟨(ai s.data.toList).toArray⟩)/\Below w.heap.size w w':=n_ s w (by omega)
theorem Ke(c:UInt8):decide (0<=Lib.indexByte nW c)=nW.contains c:=by
 have key:∀(l:List UInt8),decide (0<=Lib.indexByte l c)=l.contains c:=by
  intro l;rw[Bool.eq_iff_iff];simp only[decide_eq_true_eq,List.contains_iff_mem];constructor
  ·intro h;obtain⟨o,ho⟩:=Int.eq_ofNat_of_zero_le h;exact List.mem_of_getElem? (Lib.indexByte_some ho).1
  ·intro h;obtain⟨k,hk⟩:=List.mem_iff_getElem?.1 h;have h1:=Lib.indexByte_ge l c;have h2:Lib.indexByte l c≠-1:=λe=>Lib.indexByte_none e k hk
   omega
 exact key nW
def rB(n:Int):Bool:=(decide (97<=n)&&decide (n<=122))||(decide (65<=n)&&decide (n<=90))||(decide (48<=n)&&decide (n<=57))
theorem EV(c:UInt8):kO c=rB c.toNat:=by unfold kO rB;rw[Bool.eq_iff_iff];simp;omega
theorem Aa(c:UInt8)(w:World):Calls Tryz.prog 94 #[.int .u8 c.toNat] w λe w'=>e=.returned (.bool (fL c))/\w=w':=by
 have hi:=Tryz.strings_IndexByte ⟨nW.toArray⟩ (c.toNat:Int);rw[show(c.toNat:Int).toNat.toUInt8=c from by simp]at hi;rw[show(⟨nW.toArray⟩:ByteArray).data.toList=nW from rfl]at hi;have hm:=Ke c;have hw:fL c=(rB c.toNat||nW.contains c):=by unfold fL;rw[EV]
 have hu:=c.toNat_lt;generalize Lib.indexByte nW c=ix at*;generalize c.toNat=n at*;generalize nW.contains c=mm at*;rw[hw];have HI:=ah hi;clear hi hw;unfold rB
 cases h1:decide (97<=(n:Int))<;>cases h2:decide ((n:Int)<=122)
 ·exfalso;simp at h1 h2;omega
 ·cases h3:decide (65<=(n:Int))<;>cases h4:decide ((n:Int)<=90)
  ·exfalso;simp at h3 h4;omega
  ·cases h5:decide (48<=(n:Int))<;>cases h6:decide ((n:Int)<=57)
   ·exfalso;simp at h5 h6;omega
   all_goals
    go_enter Tryz.func94,Tryz.ntmps94
    go_wp2_with (go_at_call 84;refine(HI.out _).mono ?_;rintro e w' ⟨rfl,rfl⟩)
    go_ret
    first|exact⟨by rw[<-hm];rfl,rfl⟩|exact⟨rfl,rfl⟩
  ·have h5:decide (48<=(n:Int))=true:=by simp at h3 ⊢;omega
   have h6:decide ((n:Int)<=57)=false:=by simp at h3 ⊢;omega
   rw[h5,h6];go_enter Tryz.func94,Tryz.ntmps94
   go_wp2_with (go_at_call 84;refine(HI.out _).mono ?_;rintro e w' ⟨rfl,rfl⟩)
   go_ret
   first|exact⟨by rw[<-hm];rfl,rfl⟩|exact⟨rfl,rfl⟩
  ·go_enter Tryz.func94,Tryz.ntmps94
   go_wp2_with (go_at_call 84;refine(HI.out _).mono ?_;rintro e w' ⟨rfl,rfl⟩)
   go_ret
   first|exact⟨by rw[<-hm];rfl,rfl⟩|exact⟨rfl,rfl⟩
 ·have h3:decide (65<=(n:Int))=true:=by simp at h1 ⊢;omega
  have h4:decide ((n:Int)<=90)=false:=by simp at h1 ⊢;omega
  have h5:decide (48<=(n:Int))=true:=by simp at h1 ⊢;omega
  have h6:decide ((n:Int)<=57)=false:=by simp at h1 ⊢;omega
  rw[h3,h4,h5,h6];go_enter Tryz.func94,Tryz.ntmps94
  go_wp2_with (go_at_call 84;refine(HI.out _).mono ?_;rintro e w' ⟨rfl,rfl⟩)
  go_ret
  first|exact⟨by rw[<-hm];rfl,rfl⟩|exact⟨rfl,rfl⟩
 ·go_enter Tryz.func94,Tryz.ntmps94
  go_wp2_with (go_at_call 84;refine(HI.out _).mono ?_;rintro e w' ⟨rfl,rfl⟩)
  go_ret
  first|exact⟨by rw[<-hm];rfl,rfl⟩|exact⟨rfl,rfl⟩
theorem lT(s:ByteArray)(w:World)(hs:s.size<=140737488351232):Calls Tryz.prog 41 #[.string s] w λe w'=>e=.returned (.bool (be s.data.toList))/\w=w':=by
 have hB:∀k(h:k<s.size),fL s[k]=false->be s.data.toList=false:=by intro k h hk;unfold be;rw[nr fL s k h hk];rfl
 have hQ:∀k,(s.data.toList.take k).all fL=true->s.size<=k->be s.data.toList=!s.data.toList.isEmpty:=by intro k h hk;rw[eH s k hk]at h;unfold be;rw[h];rfl
 obtain⟨HB,HQ⟩:=az hB hQ;clear hB hQ;generalize be s.data.toList=out at*;go_enter Tryz.func41,Tryz.ntmps41
 go_wp2;go_loop [6] (λi=>∃k:Nat,k<=s.size/\i=.int .i64 k/\Hid ((s.data.toList.take k).all fL=true)) (λi=>s.size-(intOf i).toNat)
 case atStart=>exact⟨0,Nat.zero_le _,rfl,by show _=_;simp⟩
 case round=>
  obtain⟨k,hk,rfl,Py⟩:=hrel;by_cases Nc:k<s.size
  ·cases hp:fL s[k]
   ·have hf:=HB.out k Nc hp;obtain⟨Hf,Hp⟩:=az hf hp;clear hf hp;go_wp2_with (go_at_call 94;refine(Aa _ _).mono ?_;rintro e w2 ⟨rfl,rfl⟩;rw[Hp.out])
    go_ret;exact⟨by rw[Hf.out];rfl,rfl⟩
   ·have hn:(s.data.toList.take (k+1)).all fL=true:=by rw[lE fL s k Nc,Py.out,hp];rfl
    obtain⟨Hn,Hp⟩:=az hn hp;clear hn hp;go_wp2_with (go_at_call 94;refine(Aa _ _).mono ?_;rintro e w2 ⟨rfl,rfl⟩;rw[Hp.out])
    go_round
    case rel=>exact⟨k+1,by omega,by go_num,Hn⟩
    case measure=>simp[intOf];omega
  ·have hf:=HQ.out k Py.out (by omega);have Hf:=ah hf;clear hf;go_wp2;go_ret;exact⟨by rw[Hf.out];simp[Lib.toList_data],rfl⟩
theorem fR(s:ByteArray)(w:World)(hs:s.size<=1000000):Calls Tryz.prog 41 #[.string s] w λe w'=>e=.returned (.bool (be s.data.toList))/\w=w':=lT s w (by omega)
def br:List UInt8:=[32,9]
def bT(l:List UInt8):List UInt8:=Lib.trimS l br
theorem lr(l:List UInt8):(bT l).length<=l.length:=by
 have h1:∀m:List UInt8,(Lib.trimLeftS m br).length<=m.length:=λm=>(List.dropWhile_sublist _).length_le
 have h2:∀m:List UInt8,(Lib.trimRightS m br).length<=m.length:=λm=>by unfold Lib.trimRightS;rw[List.length_reverse];exact Nat.le_trans (List.dropWhile_sublist _).length_le (by rw[List.length_reverse];exact Nat.le_refl _)
 exact Nat.le_trans (h1 _) (h2 _)
theorem np(s:ByteArray)(w:World)(hs:s.size<=2000000):Calls Tryz.prog 109 #[.string s] w λe w'=>e=.returned (.string ⟨(bT s.data.toList).toArray⟩)/\Below w.heap.size w w':=by
 have hcon:=Any.strings_Trim_laid Tryz.lays160 (by kernel_rfl) s ⟨#[32,9]⟩ w (by omega) (by decide) (ascii_of_all (by decide));have HC:=ah hcon;clear hcon;go_enter Tryz.func109,Tryz.ntmps109
 go_wp2_with (go_at_call 144;refine HC.out.mono ?_;rintro e w' ⟨rfl,hb⟩)
 go_ret;exact⟨rfl,hb⟩
theorem Gy(s:ByteArray)(w:World)(hs:s.size<=1000000):Calls Tryz.prog 109 #[.string s] w λe w'=>e=.returned (.string ⟨(bT s.data.toList).toArray⟩)/\Below w.heap.size w w':=np s w (by omega)
def Rd(A:Option Addr)(n size:Nat)(xs:List Value)(w:World):Prop:=xs.length=n*size/\(0<n->∃b o,A=some ⟨b,o,none⟩/\b<w.heap.size/\∀j u,xs[j]?=some u->w.cell? ⟨b,o+j,none⟩=some u)
theorem Rd.nil{size:Nat}:Rd A 0 size [] w:=⟨by simp,λh=>absurd h (by omega)⟩
theorem Rd.below{n size:Nat}(h:Rd A n size xs w)(hb:Below w.heap.size w w'):Rd A n size xs w':=by refine⟨h.1,λhn=>?_⟩;obtain⟨b,o,e,hl,hc⟩:=h.2 hn;exact⟨b,o,e,by have:=hb.size;omega,λj u hu=>(hb.cell (p:=⟨b,o+j,none⟩) hl).trans (hc j u hu)⟩
theorem Rd.of_own{e:TypeId}{size:Nat}{n:Nat}(h:w.ownsRow B e size (.slice a m cap) n xs):m=n/\Rd a n size xs w:=by
 obtain⟨h1,h2⟩:=h;rcases h2 with⟨hv,h0⟩|⟨g,cp,cur,hv,hg,hh,hn,hm,hs,hx⟩
 ·cases hv;exact⟨h0.symm,h1,λhn=>by omega⟩
 ·cases hv
  refine⟨rfl,h1,λ_=>⟨g,0,rfl,?_,λj u hu=>?_⟩⟩
  ·rcases Nat.lt_or_ge g w.heap.size with h'|h'
   ·exact h'
   ·simp[Array.getElem?_eq_none h']at hh
  ·have hj:j<m*size:=by
    have:=(List.getElem?_eq_some_iff.1 hu).1;omega
   have h3:cur[j]?=some u:=by rw[<-hu,<-hx,List.getElem?_take_of_lt hj,Array.getElem?_toList]
   rw[Nat.zero_add];simp only[World.cell?,hh];exact h3
def aF(ls:List (List UInt8)):List Value:=ls.map λl=>Value.string ⟨l.toArray⟩
theorem Rd.str{n:Nat}(h:Rd A n 1 (aF ls) w):n=ls.length:=by have:=h.1;unfold aF at this;simpa using this.symm
theorem Rd.str_at{n k:Nat}(h:Rd A n 1 (aF ls) w)(hk:k<ls.length):∃b o,A=some ⟨b,o,none⟩/\b<w.heap.size/\w.cell? ⟨b,o+k,none⟩=some (.string ⟨(ls[k]).toArray⟩):=by obtain⟨b,o,e,hl,hc⟩:=h.2 (by rw[h.str];omega);exact⟨b,o,e,hl,hc k _ (by simp[aF,hk])⟩
abbrev aU:=List UInt8 × List UInt8
def ss(f:aU):List Value:=[.string ⟨f.1.toArray⟩,.string ⟨f.2.toArray⟩]
def aJ(xs:List aU):List Value:=xs.flatMap ss
theorem eI(xs:List aU):(aJ xs).length=xs.length*2:=by
 unfold aJ
 induction xs with
 |nil=>rfl
 |cons x r ih=>rw[List.flatMap_cons,List.length_append,ih,List.length_cons];show 2+_=_;omega
theorem tR:∀(xs:List aU)(k:Nat)(hk:k<xs.length),(aJ xs)[k*2]?=some (.string ⟨(xs[k]).1.toArray⟩)/\(aJ xs)[k*2+1]?=some (.string ⟨(xs[k]).2.toArray⟩)
 | [],k,hk=>by simp at hk
 |x::r,0,_=>by unfold aJ;simp[ss]
 |x::r,k+1,hk=>by
  have ih:=tR r k (by simpa using hk);unfold aJ at ih ⊢;rw[List.flatMap_cons,show(k+1)*2=k*2+2 from by omega];have e:∀j,(ss x++r.flatMap ss)[j+2]?=(r.flatMap ss)[j]?:=λj=>by rw[List.getElem?_append_right (by show 2<=_;omega)];rfl
  rw[show k*2+2+1=(k*2+1)+2 from by omega,e,e];simpa using ih
theorem Rd.fld{n:Nat}{xs:List aU}(h:Rd A n 2 (aJ xs) w):n=xs.length:=by have:=h.1;rw[eI]at this;omega
theorem Rd.fld_at{n k:Nat}{xs:List aU}(h:Rd A n 2 (aJ xs) w)(hk:k<xs.length):∃b o,A=some ⟨b,o,none⟩/\b<w.heap.size/\w.cell? ⟨b,o+k*2,none⟩=some (.string ⟨(xs[k]).1.toArray⟩)/\w.cell? ⟨b,o+k*2+1,none⟩=some (.string ⟨(xs[k]).2.toArray⟩):=by obtain⟨b,o,e,hl,hc⟩:=h.2 (by rw[h.fld];omega);have:=tR xs k hk;exact⟨b,o,e,hl,hc _ _ this.1,hc _ _ this.2⟩
def jN(c:UInt8):Bool:=!((decide (c.toNat<32)&&c.toNat !=9)||c.toNat==127)
def kE(v:List UInt8):Bool:=v.all jN&&(bT v==v)
def mO(f:aU):Bool:=be f.1&&kE f.2
theorem Kw{c:UInt8}(h:jN c=false):(decide ((c.toNat:Int)<32)=true/\((c.toNat:Int)!=9)=true/\((c.toNat:Int)==127)=false)\/(decide ((c.toNat:Int)<32)=false/\((c.toNat:Int)==127)=true):=by
 simp[jN]at h
 by_cases h2:(c.toNat:Int)=127
 ·right;simp;omega
 ·left;simp;omega
theorem GY{c:UInt8}(h:jN c=true):((c.toNat:Int)==127)=false/\((decide ((c.toNat:Int)<32)=true/\((c.toNat:Int)!=9)=false)\/decide ((c.toNat:Int)<32)=false):=by
 simp[jN]at h
 refine⟨by simp;omega,?_⟩;by_cases h2:(c.toNat:Int)<32
 ·left;simp;omega
 ·right;simp;omega
theorem rM(s:ByteArray)(w:World)(hs:s.size<=2000000):Calls Tryz.prog 210 #[.string s] w λe w'=>e=.returned (.bool (kE s.data.toList))/\Below w.heap.size w w':=by
 have hB:∀k(h:k<s.size),jN s[k]=false->kE s.data.toList=false:=by intro k h hk;unfold kE;rw[nr jN s k h hk];rfl
 have hQ:∀k,(s.data.toList.take k).all jN=true->s.size<=k->kE s.data.toList=(bT s.data.toList==s.data.toList):=by intro k h hk;rw[eH s k hk]at h;unfold kE;rw[h];rfl
 have hT:=λw=>np s w hs
 obtain⟨HB,HQ,HT⟩:=bu hB hQ hT;clear hB hQ hT;generalize kE s.data.toList=out at*;generalize bT s.data.toList=tl at*;have Sl:=Below.refl w.heap.size w;go_enter Tryz.func210,Tryz.ntmps210
 go_wp2;go_loop [7] (λi=>∃k:Nat,k<=s.size/\i=.int .i64 k/\Hid ((s.data.toList.take k).all jN=true)) (λi=>s.size-(intOf i).toNat)
 case atStart=>exact⟨0,Nat.zero_le _,rfl,by show _=_;simp⟩
 case round=>
  obtain⟨k,hk,rfl,Py⟩:=hrel;by_cases Nc:k<s.size
  ·cases hp:jN s[k]
   ·have hf:=HB.out k Nc hp;have Hf:=ah hf;clear hf;rcases Kw hp with⟨c1,c2,c3⟩|⟨c1,c3⟩
    all_goals
     clear hp;go_wp2;go_ret;exact⟨by rw[Hf.out];rfl,Sl⟩
   ·have hn:(s.data.toList.take (k+1)).all jN=true:=by rw[lE jN s k Nc,Py.out,hp];rfl
    have Hn:=ah hn;clear hn;obtain⟨c3,⟨c1,c2⟩|c1⟩:=GY hp
    all_goals
     clear hp;go_wp2;go_round
     case rel=>exact⟨k+1,by omega,by go_num,Hn⟩
     case measure=>simp[intOf];omega
  ·have hf:=HQ.out k Py.out (by omega);have Hf:=ah hf;clear hf;go_wp2_with fail
   refine(HT.out _).mono ?_;rintro e w1 ⟨rfl,M8⟩;go_wp2;go_ret;exact⟨by rw[Hf.out];simp[Lib.toList_data],M8⟩
theorem LK(s:ByteArray)(w:World)(hs:s.size<=1000000):Calls Tryz.prog 210 #[.string s] w λe w'=>e=.returned (.bool (kE s.data.toList))/\Below w.heap.size w w':=rM s w (Nat.le_trans hs (by decide))
theorem zv(n v:ByteArray)(w:World)(hn:n.size<=2000000)(hv:v.size<=2000000):Calls Tryz.prog 154 #[.agg #[.string n,.string v]] w λe w'=>e=.returned (.bool (mO (n.data.toList,v.data.toList)))/\Below w.heap.size w w':=by
 have k1:=λw=>lT n w (by omega)
 have k2:=λw=>rM v w hv
 unfold mO;simp only
 generalize be n.data.toList=t at*;generalize kE v.data.toList=f at*;obtain⟨K1,K2⟩:=az k1 k2;clear k1 k2;have hB:Below w.heap.size w (w.alloc (.cells #[.string n,.string v] 70)):=(Below.refl w.heap.size w).alloc (Nat.le_refl _) _
 cases t
 ·go_enter Tryz.func154,Tryz.ntmps154
  go_wp2_with fail
  refine(K1.out _).mono ?_;rintro e w1 ⟨rfl,rfl⟩;go_wp2;go_ret;exact⟨rfl,hB⟩
 ·go_enter Tryz.func154,Tryz.ntmps154
  go_wp2_with fail
  refine(K1.out _).mono ?_;rintro e w1 ⟨rfl,rfl⟩;go_wp2_with fail
  refine(K2.out _).mono ?_;rintro e w1 ⟨rfl,M8⟩;go_wp2;go_ret;exact⟨by simp,hB.trans (M8.mono (by simp))⟩
theorem Ia(n v:ByteArray)(w:World)(hn:n.size<=1000000)(hv:v.size<=1000000):Calls Tryz.prog 154 #[.agg #[.string n,.string v]] w λe w'=>e=.returned (.bool (mO (n.data.toList,v.data.toList)))/\Below w.heap.size w w':=zv n v w (Nat.le_trans hn (by decide)) (Nat.le_trans hv (by decide))
def aK:List UInt8:=[13,10]
def lA(l:List UInt8):aU:=((Lib.cut l [58]).1,bT (Lib.cut l [58]).2.1)
def g_(f:aU):Bool:=decide (2048<f.1.length+2+f.2.length)
def nL(l:List UInt8):Int:=bif decide (2048<l.length)then 3 else bif(!(Lib.cut l [58]).2.2)||!mO (lA l)then 4 else bif g_ (lA l)then 3 else 0
def pW:Nat->List UInt8->List aU->List aU × Int
 |0,_,acc=>(acc,0)
 | n+1,s,acc=>bif s.isEmpty then (acc,0) else bif !(Lib.cut s aK).2.2 then ([],4) else bif acc.length==64 then ([],3) else
  bif nL (Lib.cut s aK).1 !=0 then([],nL (Lib.cut s aK).1)else pW n (Lib.cut s aK).2.1 (acc++[lA (Lib.cut s aK).1])
def si(s:List UInt8)(acc:List aU):List aU × Int:=pW (s.length+1) s acc
def bn(s:List UInt8):List aU × Int:=si s []
theorem j_{s sep:List UInt8}(h:(Lib.cut s sep).2.2=true):(Lib.cut s sep).1.length+sep.length+(Lib.cut s sep).2.1.length=s.length/\0<=Lib.index s sep:=by
 unfold Lib.cut at*;by_cases h0:0<=Lib.index s sep
 ·have h1:=Lib.index_room s sep h0;rw[if_pos h0]at*;refine⟨?_,h0⟩;simp;omega
 ·rw[if_neg h0]at h;cases h
theorem h_(s sep:List UInt8):(Lib.cut s sep).1.length<=s.length/\(Lib.cut s sep).2.1.length<=s.length:=by
 unfold Lib.cut;by_cases h0:0<=Lib.index s sep
 ·rw[if_pos h0];simp;omega
 ·rw[if_neg h0];simp
theorem v_:∀(n m:Nat)(s:List UInt8)(acc:List aU),s.length<n->s.length<m->pW n s acc=pW m s acc
 |0,_,_,_,h,_=>absurd h (by omega)
 |_+1,0,_,_,_,h=>absurd h (by omega)
 |n+1,m+1,s,acc,h1,h2=>by
  unfold pW
  cases hs:s.isEmpty<;>simp only[cond_true,cond_false]
  cases hc:(Lib.cut s aK).2.2<;>simp only[Bool.not_true,Bool.not_false,cond_true,cond_false]
  have h3:=(j_ hc).1;have h4:aK.length=2:=rfl;rw[v_ n m _ _ (by omega) (by omega)]
theorem A4(acc:List aU):si [] acc=(acc,0):=rfl
theorem vE(s:List UInt8)(acc:List aU)(hs:s.isEmpty=false):si s acc=bif !(Lib.cut s aK).2.2 then([],4)else bif acc.length==64 then([],3)else bif nL (Lib.cut s aK).1 !=0 then([],nL (Lib.cut s aK).1)else si (Lib.cut s aK).2.1 (acc++[lA (Lib.cut s aK).1]):=by
 conv=>lhs;unfold si pW
 rw[hs,cond_false]
 cases hc:(Lib.cut s aK).2.2<;>simp only[Bool.not_true,Bool.not_false,cond_true,cond_false]
 have h3:=(j_ hc).1;have h4:aK.length=2:=rfl;unfold si;rw[v_ s.length _ _ _ (by omega) (Nat.lt_succ_self _)]
theorem IF:(Tryz.prog.info? 9).map (λi=>(i.zero,i.size,i.bytes))=some (some (.string ByteArray.empty),1,16):=by kernel_rfl
def aQ(B:Nat)(v:Value)(ls:List (List UInt8))(w:World):Prop:=w.ownsRow B 9 1 v ls.length (ls.map λl=>Value.string ⟨l.toArray⟩)
theorem aQ.shape{v:Value}(h:aQ B v ls w):∃a cap,v=.slice a ls.length cap:=by
 rcases h.2 with⟨rfl,h0⟩|⟨g,cap,cur,rfl,_⟩
 ·exact⟨none,0,by rw[h0]⟩
 ·exact⟨_,_,rfl⟩
theorem jz{e:TypeId}{size:Nat}{v:Value}{n:Nat}{w1:World}(h:w.ownsRow B e size v n xs)(hb:Below w.heap.size w w1):w1.ownsRow B e size v n xs:=by
 obtain⟨h1,h2⟩:=h;refine⟨h1,?_⟩;rcases h2 with h2|⟨g,cap,cur,hv,hg,hh,r⟩
 ·exact Or.inl h2
 ·refine Or.inr ⟨g,cap,cur,hv,hg,?_,r⟩
  have Nc:g<w.heap.size:=by
   rcases Nat.lt_or_ge g w.heap.size with h'|h'
   ·exact h'
   ·simp[Array.getElem?_eq_none h']at hh
  rw[hb.block g Nc];exact hh
theorem aQ.below{v:Value}{w1:World}(h:aQ B v ls w)(hb:Below w.heap.size w w1):aQ B v ls w1:=jz h hb
theorem ab{b:Nat}{cs:Array Value}(h:w.heap[b]?=some (.cells cs T (0,0)))(j:Nat):w.cell? ⟨b,j,none⟩=cs[j]?/\w.frozen? ⟨b,j,none⟩=false/\b<w.heap.size:=by
 refine⟨by simp[World.cell?,h],by simp[World.frozen?,h],?_⟩;rcases Nat.lt_or_ge b w.heap.size with h'|h'
 ·exact h'
 ·simp[Array.getElem?_eq_none h']at h
theorem lG{b:Nat}{v u:Value}(h:w.heap[b]?=some (.cells #[u] T (0,0))):(w.setCell ⟨b,0,none⟩ v).heap[b]?=some (.cells #[v] T (0,0)):=by simp[World.setCell,Array.getElem?_modify,h]
theorem EG{b c:Nat}{v u x:Value}(Ng:c≠b)(h:w.heap[b]?=some (.cells #[u] T (0,0))):((w.setCell ⟨b,0,none⟩ v).setCell ⟨c,0,none⟩ x).heap[b]?=some (.cells #[v] T (0,0)):=by rw[Below.heap_setCell _ _ _ _ (by show b≠c;omega)];exact lG h
theorem aQ.cell{n:Nat}(h:aQ B (.slice a n cap) ls w)(j:Nat)(hj:j<ls.length):∃g,a=some ⟨g,0,none⟩/\w.cell? ⟨g,j,none⟩=some (.string ⟨ls[j].toArray⟩)/\w.frozen? ⟨g,j,none⟩=false:=by
 rcases h.2 with⟨_,h0⟩|⟨g,cp,cur,hv,hg,hh,hn,hc,hs,hx⟩
 ·omega
 ·cases hv
  refine⟨g,rfl,?_,by simp[World.frozen?,hh]⟩
  have h1:cur[j]?=(cur.toList.take (ls.length*1))[j]?:=by rw[List.getElem?_take_of_lt (by omega),Array.getElem?_toList]
  have h2:cur[j]?=some (.string ⟨ls[j].toArray⟩):=by rw[h1,hx,List.getElem?_map,List.getElem?_eq_getElem hj];rfl
  simp only[World.cell?,hh];exact h2
theorem aQ.base{B':Nat}{v:Value}(h:aQ B v ls w)(hB:B'<=B):aQ B' v ls w:=by
 refine⟨h.1,?_⟩;rcases h.2 with h|⟨g,cp,cur,hv,hg,r⟩
 ·exact Or.inl h
 ·exact Or.inr ⟨g,cp,cur,hv,by omega,r⟩
theorem aQ.room{n:Nat}(h:aQ B (.slice a n cap) ls w):n=ls.length/\n<=cap/\(0<n->∃g,a=some ⟨g,0,none⟩/\g<w.heap.size):=by
 rcases h.2 with⟨hv,h0⟩|⟨g,cp,cur,hv,hg,hh,hn,hc,hs,hx⟩
 ·cases hv;exact⟨by omega,by omega,λh=>by omega⟩
 ·cases hv
  refine⟨rfl,hn,λ_=>⟨g,rfl,?_⟩⟩;rcases Nat.lt_or_ge g w.heap.size with h'|h'
  ·exact h'
  ·simp[Array.getElem?_eq_none h']at hh
def pD(w w1:World)(v v':Value):Prop:=w.grownBy w1 v.ownBlock/\(v'.ownBlock=v.ownBlock\/∀g,v'.ownBlock=some g->w.heap.size<=g)
theorem Bm{P:Program}{a:Act}{K:Act->World->Prop}(s x:Operand)(T E:TypeId)(ho:o.op=.call { callee:=.builtin .append,args:=#[s,x],argTypes:=#[T,T] }){z:Value}{size bytes:Nat}(ht:P.underlying T=some (.slice E))(Yt:(P.info? E).map (λi=>(i.zero,i.size,i.bytes))=some (some z,size,bytes))(RU:z.cells.size=size)(ND:0<size)(N9:bytes<=1000){w wx:World}(B g:Nat){v:Value}{n:Nat}{xs:List Value}(news:List Value)(hl:news.length=size)(h1:∀u∈news,u.oneCell'=true)(hs:a.eval s=v)(hx:a.eval x=.slice (some ⟨g,0,none⟩) 1 1)(Nj:wx.ownsRow B E size v n xs)(hB:B<=w.heap.size)(hn:n<=1000000000)(hc:∀j:Nat,wx.cell? ⟨g,j,none⟩=news[j]?)(hwx:Below w.heap.size w wx)(hK:∀v' w1,w1.ownsRow B E size v' (n+1) (xs++news)->Below B w w1->pD wx w1 v v'->K (a.put o.dst v') w1):o.wp P a wx K Q:=by
 obtain⟨i0,hi,N_,NZ,N6⟩:=info_parts Yt;have hby:(n+1)*bytes<=1000000001*1000:=Nat.mul_le_mul (by omega) N9;have V2:=hwx.size
 obtain⟨v',w',hr,h2,h3,_,h5⟩:=run_append_own_at (P:=P) wx B T o.type E i0 z size bytes ht hi N_ NZ N6 RU ND v n xs Nj ⟨g,0,none⟩ 1 1 news (by omega) (by
  intro j u hj
  have e:(⟨g,0,none⟩:Addr).add j=⟨g,j,none⟩:=by unfold Addr.add;split<;>simp_all
  rw[e,hc,hj]) h1 (by unfold maxLen;omega) (by omega) (by omega)
 unfold Oper.wp execOp;simp only[ho,resolve,invoke,builtin,Sem.run_bind,Sem.run_pure,Result.andThen_ok,List.map_toArray,List.map_cons,List.map_nil,hs,hx,hr];refine hK _ _ h2 ?_ ⟨h3,?_⟩
 ·exact(hwx.mono hB).grown h3 (by omega) (λk hk=>(Nj.lt k hk).1)
 ·rcases h5 with h|h
  ·exact Or.inl h
  ·refine Or.inr λg hg=>?_
   rw[h]at hg;have:=Option.some.inj hg;omega
theorem vG{w1:World}{o:Obj}{v v':Value}(h:pD (w.alloc o) w1 v v'):pD w w1 v v':=by
 obtain⟨NF,hwhere⟩:=h;have h0:=World.grownBy_alloc w o v.ownBlock;refine⟨⟨NF.os.trans h0.os,NF.tape.trans h0.tape,NF.output.trans h0.output,Nat.le_trans h0.size NF.size,λk hk Ng=>(NF.block k (Nat.lt_of_lt_of_le hk h0.size) Ng).trans (h0.block k hk Ng)⟩,?_⟩;rcases hwhere with h|h
 ·exact Or.inl h
 ·exact Or.inr λg hg=>Nat.le_trans h0.size (h g hg)
theorem oQ{P:Program}{rest:List Oper}{o:Oper}{a:Act}(Ot:o.guard=none)(s x:Operand)(T E:TypeId)(ho:o.op=.call { callee:=.builtin .append,args:=#[s,x],argTypes:=#[T,T] }){z:Value}{size bytes:Nat}(ht:P.underlying T=some (.slice E))(Yt:(P.info? E).map (λi=>(i.zero,i.size,i.bytes))=some (some z,size,bytes))(RU:z.cells.size=size)(ND:0<size)(N9:bytes<=1000){w:World}(B:Nat){v:Value}{n:Nat}{xs:List Value}(news:List Value)(hl:news.length=size)(h1:∀u∈news,u.oneCell'=true)(hs:a.eval s=v)(hx:a.eval x=.slice (some ⟨w.heap.size,0,none⟩) 1 1)(Nj:w.ownsRow B E size v n xs)(hB:B<=w.heap.size)(hn:n<=1000000000)(hK:∀v' w1,w1.ownsRow B E size v' (n+1) (xs++news)->Below B w w1->pD w w1 v v'->wpList P ops Q rest (a.put o.dst v') w1):wpList P ops Q (o::rest) a (w.alloc (.cells news.toArray E)):=
 wpList_plain Ot λ_ UI=>Bm s x T E ho ht Yt RU ND N9 B w.heap.size news hl h1 hs hx (Nj.alloc _) hB hn (λj=>by rw[World.cell?_alloc_mark];simp) ((Below.refl _ w).alloc (Nat.le_refl _) _)
  λv' w1 h2 h3 h4=>UI _ _ (hK v' w1 h2 h3 (vG h4))
theorem gq{rest:List Oper}{o:Oper}{a:Act}(B:Nat)(y:List UInt8){w:World}{v:Value}{ls:List (List UInt8)}(Nj:aQ B v ls w)(hB:B<=w.heap.size)(hn:ls.length<=1000000000)(Ot:o.guard=none)(s x:Operand)(ho:o.op=.call { callee:=.builtin .append,args:=#[s,x],argTypes:=#[30,30] })(hs:a.eval s=v)(hx:a.eval x=.slice (some ⟨w.heap.size,0,none⟩) 1 1)(hK:∀v' w1,aQ B v' (ls++[y]) w1->Below B w w1->pD w w1 v v'->wpList Tryz.prog ops Q rest (a.put o.dst v') w1):wpList Tryz.prog ops Q (o::rest) a (w.alloc (.cells #[.string ⟨y.toArray⟩] 9)):=by
 refine oQ (z:=.string ByteArray.empty) (bytes:=16) (n:=ls.length) Ot s x 30 9 ho Tryz.underlying30 IF rfl (by decide) (by decide) B [.string ⟨y.toArray⟩] rfl (by intro u hu;simp at hu;subst hu;rfl) hs hx Nj hB hn ?_;intro v' w1 h1 h2 h3;refine hK v' w1 ?_ h2 h3;show World.ownsRow _ _ _ _ _ _ _
 rw[List.length_append,List.length_singleton,List.map_append];exact h1
theorem aQ.drew{v:Value}(h:aQ B v ls w):aQ B v ls w.drew:=h
theorem aQ.nil(B:Nat)(w:World):aQ B (.slice none 0 0) [] w:=World.ownsRow_nil _ _ _ _
def fi(w:World)(ls:List (List UInt8))(e:Ending)(w':World):Prop:=∃a cap,e=.returned (.slice a ls.length cap)/\aQ w.heap.size (.slice a ls.length cap) ls w'/\Below w.heap.size w w'
theorem aQ.rd(h:aQ B (.slice a m cap) ls w):m=ls.length/\Rd a ls.length 1 (aF ls) w:=Rd.of_own h
def xM(v:Value)(A:Option Addr)(n:Nat):Prop:=0<n->∀g o,A=some ⟨g,o,none⟩->v.ownBlock≠some g
theorem Rd.far{n size:Nat}{w1:World}{v v':Value}(h:Rd A n size xs w)(hf:pD w w1 v v')(hs:xM v A n):Rd A n size xs w1/\xM v' A n:=by
 refine⟨⟨h.1,λhn=>?_⟩,λhn g o e=>?_⟩
 ·obtain⟨b,o,e,hl,hc⟩:=h.2 hn;have hb:=hf.1.block b hl (λx=>hs hn b o e x.symm);exact⟨b,o,e,Nat.lt_of_lt_of_le hl hf.1.size,λj u hu=>(World.cell?_of_block (a:=⟨b,o+j,none⟩) hb).trans (hc j u hu)⟩
 ·obtain⟨b,o',e',hl,_⟩:=h.2 hn;rw[e']at e
  cases e
  rcases hf.2 with h2|h2
  ·rw[h2];exact hs hn _ _ e'
  ·intro x;have:=h2 _ x;omega
theorem xM.new{v:Value}{n:Nat}{e:TypeId}{size:Nat}(h:w.ownsRow B e size v m xs)(ha:∀g o,A=some ⟨g,o,none⟩->w.heap.size<=g):xM v A n:=by intro _ g o e x;have:=(h.lt g x).2;have:=ha g o e;omega
theorem mf{e:TypeId}{size:Nat}{n:Nat}(h:w.ownsRow B e size (.slice a m cap) n xs):∀g o,a=some ⟨g,o,none⟩->B<=g:=by intro g o e;exact(h.lt g (by rw[e];rfl)).1
theorem Jm:(Tryz.prog.info? 70).map (λi=>(i.zero,i.size,i.bytes))=some (some (.agg #[.string ByteArray.empty,.string ByteArray.empty]),2,32):=by kernel_rfl
def aM(B:Nat)(v:Value)(fs:List aU)(w:World):Prop:=w.ownsRow B 70 2 v fs.length (aJ fs)
theorem aM.shape{v:Value}{fs:List aU}(h:aM B v fs w):∃a cap,v=.slice a fs.length cap:=by
 rcases h.2 with⟨rfl,h0⟩|⟨g,cap,cur,rfl,_⟩
 ·exact⟨none,0,by rw[h0]⟩
 ·exact⟨_,_,rfl⟩
theorem aM.below{v:Value}{fs:List aU}{w1:World}(h:aM B v fs w)(hb:Below w.heap.size w w1):aM B v fs w1:=jz h hb
theorem aM.drew{v:Value}{fs:List aU}(h:aM B v fs w):aM B v fs w.drew:=h
theorem aM.nil(B:Nat)(w:World):aM B (.slice none 0 0) [] w:=World.ownsRow_nil _ _ _ _
theorem aM.rd{fs:List aU}(h:aM B (.slice a m cap) fs w):m=fs.length/\Rd a fs.length 2 (aJ fs) w:=Rd.of_own h
theorem aM.base{B':Nat}{v:Value}{fs:List aU}(h:aM B v fs w)(hB:B'<=B):aM B' v fs w:=by
 refine⟨h.1,?_⟩;rcases h.2 with h|⟨g,cp,cur,hv,hg,r⟩
 ·exact Or.inl h
 ·exact Or.inr ⟨g,cp,cur,hv,by omega,r⟩
theorem mh{rest:List Oper}{o:Oper}{a:Act}(B:Nat)(y:aU){w:World}{v:Value}{fs:List aU}(Nj:aM B v fs w)(hB:B<=w.heap.size)(hn:fs.length<=1000000000)(Ot:o.guard=none)(s x:Operand)(ho:o.op=.call { callee:=.builtin .append,args:=#[s,x],argTypes:=#[36,36] })(hs:a.eval s=v)(hx:a.eval x=.slice (some ⟨w.heap.size,0,none⟩) 1 1)(hK:∀v' w1,aM B v' (fs++[y]) w1->Below B w w1->pD w w1 v v'->wpList Tryz.prog ops Q rest (a.put o.dst v') w1):wpList Tryz.prog ops Q (o::rest) a (w.alloc (.cells #[.string ⟨y.1.toArray⟩,.string ⟨y.2.toArray⟩] 70)):=by
 refine oQ (z:=.agg #[.string ByteArray.empty,.string ByteArray.empty]) (bytes:=32) (n:=fs.length) Ot s x 36 70 ho Tryz.underlying36 Jm rfl (by decide) (by decide) B (ss y) rfl (by intro u hu;simp[ss]at hu;rcases hu with rfl|rfl<;>rfl) hs hx Nj hB hn ?_;intro v' w1 h1 h2 h3;refine hK v' w1 ?_ h2 h3;show World.ownsRow _ _ _ _ _ _ _
 rw[List.length_append,List.length_singleton];have:aJ (fs++[y])=aJ fs++ss y:=by unfold aJ;simp
 rw[this];exact h1
def eT(w:World)(fs:List aU)(e:Ending)(w':World):Prop:=∃a cap,e=.returned (.slice a fs.length cap)/\aM w.heap.size (.slice a fs.length cap) fs w'/\Below w.heap.size w w'
def cq(w:World):Prop:=0<w.heap.size/\∃m,w.cell? ⟨0,0,none⟩=some (.int .i64 m)
theorem cq.of(h:∃m,w.cell? ⟨0,0,none⟩=some (.int .i64 m)):cq w:=by obtain⟨m,h⟩:=h;exact⟨World.block_lt_of_cell? w _ h,m,h⟩
theorem cq.below(h:cq w)(hb:Below w.heap.size w w'):cq w':=by obtain⟨h0,m,h⟩:=h;exact⟨Nat.lt_of_lt_of_le h0 hb.size,m,(hb.cell (p:=⟨_,0,none⟩) h0).trans h⟩
theorem iL(s sep:ByteArray)(w:World)(h:cq w)(hs:s.size<=1000000):Calls Tryz.prog 71 #[.string s,.string sep] w λe w'=>e=.returned (.tuple #[.string ⟨(Lib.cut s.data.toList sep.data.toList).1.toArray⟩,.string ⟨(Lib.cut s.data.toList sep.data.toList).2.1.toArray⟩,.bool (Lib.cut s.data.toList sep.data.toList).2.2])/\Below w.heap.size w w':=by obtain⟨_,m,hm⟩:=h;refine(Tryz.strings_Cut s sep m w (by omega) hm).mono ?_;rintro e w' ⟨rfl,n,rfl⟩;exact⟨rfl,Go.below_drewN (Below.refl _ _) _⟩
def BR:Value->Nat
 |.string b=>b.size
 |_=>0
def ii(w:World)(r:List aU × Int)(e:Ending)(w':World):Prop:=∃a cap,e=.returned (.tuple #[.slice a r.1.length cap,.int .i64 r.2])/\aM w.heap.size (.slice a r.1.length cap) r.1 w'/\Below w.heap.size w w'
theorem ii.none{n:Int}(h:Below w.heap.size w w'):ii w ([],n) (.returned (.tuple #[.slice none 0 0,.int .i64 n])) w':=⟨Option.none,0,rfl,aM.nil _ _,h⟩
theorem Ak(n v:ByteArray)(w:World)(hn:n.size<=2000000)(hv:v.size<=2000000):Calls Tryz.prog 155 #[.agg #[.string n,.string v]] w λe w'=>e=.returned (.string ⟨(n.data.toList++([58,32]++v.data.toList)).toArray⟩)/\Below w.heap.size w w':=by
 have hB:Below w.heap.size w (w.alloc (.cells #[.string n,.string v] 70)):=(Below.refl w.heap.size w).alloc (Nat.le_refl _) _
 have he:(n++⟨#[58,32]⟩:ByteArray)++v=⟨(n.data.toList++([58,32]++v.data.toList)).toArray⟩:=by apply dE;simp[ByteArray.data_append]
 rw[<-he];clear he;go_enter Tryz.func155,Tryz.ntmps155
 go_wp2;go_ret;exact⟨rfl,hB⟩
theorem yl(n v:ByteArray)(w:World)(hn:n.size<=1000000)(hv:v.size<=1000000):Calls Tryz.prog 155 #[.agg #[.string n,.string v]] w λe w'=>e=.returned (.string ⟨(n.data.toList++([58,32]++v.data.toList)).toArray⟩)/\Below w.heap.size w w':=Ak n v w (Nat.le_trans hn (by decide)) (Nat.le_trans hv (by decide))
theorem tG(s:ByteArray)(w:World)(hM:cq w)(hs:s.size<=1000000):Calls Tryz.prog 105 #[.string s] w (ii w (bn s.data.toList)):=by
 have hP:bn s.data.toList=si s.data.toList []:=rfl;generalize bn s.data.toList=OY at*;have HP:=ah hP;clear hP;have Nm:=Below.refl w.heap.size w;go_enter Tryz.func105,Tryz.ntmps105
 go_wp2_with fail
 go_loopw [0,2] (λx out wr=>∃(b:ByteArray) (acc:List aU),x=.string b/\b.size<=s.size/\acc.length<=64/\Hid (aM w.heap.size out acc wr)/\Below w.heap.size w wr/\Hid (si b.data.toList acc=OY)) (λx _ _=>BR x)
 case atStart=>exact⟨s,[],rfl,Nat.le_refl _,Nat.zero_le _,Lib.hid (aM.nil _ _),Nm,Lib.hid HP.out.symm⟩
 case round=>
  clear Nm HP;obtain⟨b,acc,rfl,N9,Rx,HO,M_,HT⟩:=hrel;obtain⟨A,C,rfl⟩:=HO.out.shape;by_cases h0:0<b.size
  ·have No:=vE b.data.toList acc (fh b h0);rw[HT.out]at No;have k1:=iL b ⟨#[13,10]⟩ wr (hM.below M_) (by omega);rw[show(⟨#[13,10]⟩:ByteArray).data.toList=aK from rfl]at k1;have QK:=h_ b.data.toList aK;have Z4:=@j_ b.data.toList aK;rw[<-Lib.size_eq]at QK Z4;have PF:aK.length=2:=rfl;rw[PF]at Z4;clear HT;generalize Lib.cut b.data.toList aK=c at*;obtain⟨one,rest,is⟩:=c;obtain⟨one,rfl⟩:∃o:ByteArray,one=o.data.toList:=⟨⟨one.toArray⟩,rfl⟩;obtain⟨rest,rfl⟩:∃o:ByteArray,rest=o.data.toList:=⟨⟨rest.toArray⟩,rfl⟩;simp only[bN,<-Lib.size_eq]at No QK Z4 k1;obtain⟨Nr,Nz⟩:=QK;have Ng:(!b.toList.isEmpty)=true:=by rw[Lib.toList_data,fh b h0];rfl
   have H1:=ah k1;clear k1
   cases is
   ·simp only[Bool.not_false,cond_true]at No;subst No;clear Z4;go_wp2_with fail
    refine H1.out.mono ?_;rintro e w1 ⟨rfl,M8⟩;go_wp2;go_ret2
    exact ii.none (bt M_ M8)
   ·simp only[Bool.not_true,cond_false]at No;have hlen:=(Z4 rfl).1;clear Z4;by_cases P7:acc.length=64
    ·rw[show(acc.length==64)=true from by simp[P7],cond_true]at No;subst No;have t1:((acc.length:Int)==64)=true:=by simp;omega
     go_wp2_with fail
     refine H1.out.mono ?_;rintro e w1 ⟨rfl,M8⟩;go_wp2;go_ret2
     exact ii.none (bt M_ M8)
    ·rw[show(acc.length==64)=false from by simp[P7],cond_false]at No;have t1:((acc.length:Int)==64)=false:=by simp;omega
     have Xf:nL one.data.toList=bif decide (2048<one.size)then 3 else bif(!(Lib.cut one.data.toList [58]).2.2)||!mO (lA one.data.toList)then 4 else bif g_ (lA one.data.toList)then 3 else 0:=by rw[Lib.size_eq];rfl
     by_cases hlong:one.size<=2048
     ·rw[show decide (2048<one.size)=false from by simp;omega,cond_false]at Xf;have k2:=λw h=>iL one ⟨#[58]⟩ w h (by omega)
      rw[show(⟨#[58]⟩:ByteArray).data.toList=[58]from rfl]at k2;have QK:=h_ one.data.toList [58];have htl:=lr (Lib.cut one.data.toList [58]).2.1;unfold lA at Xf No;rw[<-Lib.size_eq]at QK;generalize Lib.cut one.data.toList [58]=c at*;obtain⟨nm,v,is⟩:=c;simp only at Xf No QK htl k2
      have k3:=λw=>Gy ⟨v.toArray⟩ w (by rw[Lib.size_eq];show v.length<=_;omega)
      rw[show(⟨v.toArray⟩:ByteArray).data.toList=v from by simp]at k3;have k4:=λw=>Ia ⟨nm.toArray⟩ ⟨(bT v).toArray⟩ w (by rw[Lib.size_eq];show nm.length<=_;omega) (by rw[Lib.size_eq];show(bT v).length<=_;omega)
      have k5:=λw=>yl ⟨nm.toArray⟩ ⟨(bT v).toArray⟩ w (by rw[Lib.size_eq];show nm.length<=_;omega) (by rw[Lib.size_eq];show(bT v).length<=_;omega)
      rw[show(⟨nm.toArray⟩:ByteArray).data.toList=nm from by simp,show(⟨(bT v).toArray⟩:ByteArray).data.toList=bT v from by simp]at k4 k5;generalize bT v=tv at*
      have SH:(⟨(nm++([58,32]++tv)).toArray⟩:ByteArray).size=nm.length+2+tv.length:=by rw[Lib.size_eq];simp;omega
      generalize (⟨(nm++([58,32]++tv)).toArray⟩:ByteArray)=ln at*;have UX:g_ (nm,tv)=decide (2048<nm.length+2+tv.length):=rfl;generalize mO (nm,tv)=my at*;obtain⟨K2,K3,K4,K5⟩:=bK k2 k3 k4 k5;obtain⟨HS,HE,HL⟩:=bu No Xf UX;clear k2 k3 k4 k5 No Xf UX;go_wp2_with fail
      refine H1.out.mono ?_;rintro e w1 ⟨rfl,M8⟩;have Ni:=bt M_ M8;go_wp2_with fail
      refine(K2.out _ (hM.below Ni)).mono ?_;rintro e w2 ⟨rfl,M9⟩;have Nk:=bt Ni M9;go_wp2_with fail
      refine(K3.out _).mono ?_;rintro e w3 ⟨rfl,Na⟩;have Nu:=bt Nk Na;have Pm:=Nu.alloc Nu.size (.cells #[.string ⟨nm.toArray⟩,.string ⟨tv.toArray⟩] 70)
      cases is
      ·have he:nL one.data.toList=4:=HE.out;have ht:=HS.out;rw[he]at ht;have P_:OY=([],4):=ht;subst P_;clear he ht HE HS;go_wp2_with fail
       go_ret2
       exact ii.none Pm
      ·go_wp2_with fail
       refine(K4.out _).mono ?_;rintro e w4 ⟨rfl,Nf⟩;have Ny:=Pm.trans (Nf.mono Pm.size);have Qg:=bt (bt M8 M9) Na;have hR4a:=Qg.alloc Qg.size (.cells #[.string ⟨nm.toArray⟩,.string ⟨tv.toArray⟩] 70);have S4:=hR4a.trans (Nf.mono hR4a.size);have c0:w4.cell? ⟨w3.heap.size,0,none⟩=some (.string ⟨nm.toArray⟩):=(Nf.cell (p:=⟨w3.heap.size,0,none⟩) (by simp)).trans (World.cell?_alloc_mark w3 _ _ _ 0);have c1:w4.cell? ⟨w3.heap.size,1,none⟩=some (.string ⟨tv.toArray⟩):=(Nf.cell (p:=⟨w3.heap.size,1,none⟩) (by simp)).trans (World.cell?_alloc_mark w3 _ _ _ 1);have Te:w3.heap.size<w4.heap.size:=by have:=Nf.size;simp at this;omega
       clear Pm Nf
       cases my
       ·have he:nL one.data.toList=4:=HE.out;have ht:=HS.out;rw[he]at ht;have P_:OY=([],4):=ht;subst P_;clear he ht HE HS;go_wp2_with fail
        go_ret2
        exact ii.none Ny
       ·go_wp2_with fail
        refine(K5.out _).mono ?_;rintro e w5 ⟨rfl,Ns⟩;have Oh:=bt Ny Ns;have d0:=(Ns.cell (p:=⟨w3.heap.size,0,none⟩) Te).trans c0;have d1:=(Ns.cell (p:=⟨w3.heap.size,1,none⟩) Te).trans c1;have Xq:=bt S4 Ns;clear c0 c1 Ns Te;by_cases Q5:ln.size<=2048
        ·have hz:g_ (nm,tv)=false:=by rw[HL.out];simp;omega
         have he:=HE.out;rw[hz]at he;have Xm:nL one.data.toList=0:=he;have ht:=HS.out;rw[Xm]at ht;have P_:si rest.data.toList (acc++[(nm,tv)])=OY:=ht.symm;have HT:=ah P_;clear hz he Xm ht P_ HS HE HL;have Rk:=ah (HO.out.below Xq);have hacc2:acc.length<=1000000000:=by omega
         go_wp2_with (at_builtin;refine mh w.heap.size (nm,tv) Rk.out Oh.size hacc2 rfl _ _ rfl rfl rfl ?_)
         intro v' w6 hO6 NP _;have Pw:=ah hO6;clear hO6;go_wp2;go_roundw
         case rel=>exact⟨rest,acc++[(nm,tv)],rfl,by omega,by simp;omega,Pw,Oh.trans NP,HT⟩
         case measure=>simp[BR];omega
        ·have hz:g_ (nm,tv)=true:=by rw[HL.out];simp;omega
         have he:=HE.out;rw[hz]at he;have Xm:nL one.data.toList=3:=he;have ht:=HS.out;rw[Xm]at ht;have P_:OY=([],3):=ht;subst P_;clear hz he Xm ht HS HE HL;go_wp2_with fail
         go_ret2
         exact ii.none Oh
     ·rw[show decide (2048<one.size)=true from by simp;omega,cond_true]at Xf;rw[Xf]at No;have ht:OY=([],3):=No;subst ht;clear No Xf;go_wp2_with fail
      refine H1.out.mono ?_;rintro e w1 ⟨rfl,M8⟩;go_wp2;go_ret2
      exact ii.none (bt M_ M8)
  ·have Ol:b=⟨#[]⟩:=by
    apply dE
    have:b.data.toList=[]:=List.length_eq_zero_iff.1 (by rw[<-Lib.size_eq];omega);rw[this]
   subst Ol;have ht:=HT.out;rw[show(⟨#[]⟩:ByteArray).data.toList=[]from rfl,A4]at ht;subst ht;clear HT;go_wp2;go_ret2
   exact⟨A,C,rfl,HO.out,M_⟩
theorem Fh{c:UInt8}{r:List UInt8}(h:bT (r++[c])=r++[c]):br.contains c=false:=by
 unfold bT Lib.trimS Lib.trimLeftS Lib.trimRightS at h
 cases hb:br.contains c
 ·rfl
 ·exfalso
  have e:(r++[c]).reverse=c::r.reverse:=by simp
  rw[e,List.dropWhile_cons_of_pos (by exact hb)]at h;have h1:=congrArg List.length h;have h2:=(List.dropWhile_sublist (br.contains ·) (l:=(r.reverse.dropWhile (br.contains ·)).reverse)).length_le;have h3:=(List.dropWhile_sublist (br.contains ·) (l:=r.reverse)).length_le;simp at h1 h2 h3
  omega
theorem Ja(l:List UInt8)(c:UInt8)(i:Nat):Lib.occAt l [c] i=(l[i]?==some c):=by
 unfold Lib.occAt
 cases h:l.drop i with
 |nil=>
  have:l[i]?=none:=by rw[List.getElem?_eq_none_iff];have:=congrArg List.length h;simp at this;omega
  rw[this];rfl
 |cons x r=>
  have:l[i]?=some x:=by have:=congrArg (·[0]?) h;simpa using this
  rw[this];simp[List.isPrefixOf]
  rw[Bool.eq_iff_iff];simp;exact eq_comm
theorem In(s:ByteArray)(j:Nat)(h:j<s.size):s.data.toList[j]?=some s[j]:=by rw[jm s j h];simp
def af(xs:List aU)(name:List UInt8):List (List UInt8):=(xs.filter λf=>ai f.1==ai name).map (·.2)
theorem cD(xs:List aU)(name:List UInt8):(af xs name).length<=xs.length:=by unfold af;rw[List.length_map];exact List.length_filter_le _ _
theorem w_(xs:List aU)(f:aU)(name:List UInt8):af (xs++[f]) name=if ai f.1==ai name then af xs name++[f.2]else af xs name:=by
 unfold af;rw[List.filter_append]
 cases h:(ai f.1==ai name)<;>simp[h]
theorem mc{α:Type}(xs:List α)(k:Nat)(h:k<xs.length):xs.take (k+1)=xs.take k++[xs[k]]:=List.take_succ_eq_append_getElem h
theorem jD(a b:ByteArray)(w:World)(ha:a.size<=140737488351232)(hb:b.size<=140737488351232):Calls Tryz.prog 29 #[.string a,.string b] w λe w'=>e=.returned (.bool (ai a.data.toList==ai b.data.toList))/\Below w.heap.size w w':=by
 have hB:=Below.refl w.heap.size w;have k1:=λw=>n_ a w ha
 have k2:=λw=>n_ b w hb
 have t1:((⟨(ai a.data.toList).toArray⟩:ByteArray).toList==(⟨(ai b.data.toList).toArray⟩:ByteArray).toList)=(ai a.data.toList==ai b.data.toList):=by rw[Lib.toList_data,Lib.toList_data]
 generalize ai a.data.toList=x at*;generalize ai b.data.toList=y at*;obtain⟨K1,K2,T1⟩:=bu k1 k2 t1;clear k1 k2 t1;go_enter Tryz.func29,Tryz.ntmps29
 go_wp2_with fail
 refine(K1.out _).mono ?_;rintro e w1 ⟨rfl,M8⟩;go_wp2_with fail
 refine(K2.out _).mono ?_;rintro e w2 ⟨rfl,M9⟩;go_wp2;go_ret;exact⟨by rw[<-T1.out];rfl,bt M8 M9⟩
theorem Md(a b:ByteArray)(w:World)(ha:a.size<=1000000)(hb:b.size<=1000000):Calls Tryz.prog 29 #[.string a,.string b] w λe w'=>e=.returned (.bool (ai a.data.toList==ai b.data.toList))/\Below w.heap.size w w':=jD a b w (by omega) (by omega)
theorem qN(A:Option Addr)(n c:Nat)(xs:List aU)(name:ByteArray)(w:World)(hr:Rd A n 2 (aJ xs) w)(hn:n<=1000000)(hs:∀f∈xs,f.1.length<=2000000)(OQ:name.size<=2000000):Calls Tryz.prog 12 #[.slice A n c,.string name] w (fi w (af xs name.data.toList)):=by
 have hB:=Below.refl w.heap.size w;obtain rfl:=hr.fld;obtain⟨HR,HS⟩:=az hr hs;clear hr hs;go_enter Tryz.func12,Tryz.ntmps12
 go_wp2;go_loopw [9,4] (λi out wr=>∃k:Nat,k<=xs.length/\i=.int .i64 k/\Hid (aQ w.heap.size out (af (xs.take k) name.data.toList) wr)/\Below w.heap.size w wr) (λi _ _=>xs.length-(intOf i).toNat)
 case atStart=>exact⟨0,Nat.zero_le _,rfl,Lib.hid (aQ.nil _ _),hB⟩
 case round=>
  clear hB;obtain⟨k,hk,rfl,HO,M_⟩:=hrel;by_cases Nc:k<xs.length
  ·obtain⟨b,o,rfl,hl,c1,c2⟩:=(HR.out.below M_).fld_at (k:=k) (by omega);have XV:=HS.out xs[k] (List.getElem_mem _);have Oj:=w_ (xs.take k) xs[k] name.data.toList;rw[<-mc xs k (by omega)]at Oj;have k1:=λw=>jD ⟨(xs[k]).1.toArray⟩ name w (by rw[Lib.size_eq];exact Nat.le_trans XV (by decide)) (Nat.le_trans OQ (by decide))
   have QS:=cD (xs.take k) name.data.toList;rw[List.length_take]at QS;generalize xs[k]=f at*;obtain⟨f1,f2⟩:=f;simp only at c1 c2 k1 Oj
   obtain⟨VO,K1⟩:=az Oj k1;clear Oj k1 XV
   cases hq:(ai f1==ai name.data.toList)
   ·have NR:=VO.out;rw[hq,if_neg (by decide)]at NR;have HN:Hid (aQ w.heap.size u4 (af (xs.take (k+1)) name.data.toList) wr):=by rw[NR];exact HO
    have Hq:=ah hq;clear NR hq VO;go_wp2_with (go_at_call 29;refine(K1.out _).mono ?_;rintro e w1 ⟨rfl,M8⟩;rw[Hq.out])
    have M9:Below w.heap.size w w1:=(M_.alloc M_.size _).trans (M8.mono (by have:=M_.size;simp;omega));go_roundw
    case rel=>exact⟨k+1,by omega,by go_num,Lib.hid ((HN.out.below ((Below.refl _ wr).alloc (Nat.le_refl _) _)).below M8),M9⟩
    case measure=>simp[intOf];omega
   ·have NR:=VO.out;rw[hq,if_pos rfl]at NR;have Hnx:=ah NR;have Hq:=ah hq;clear NR hq VO;go_wp2_with fail
    refine(K1.out _).mono ?_;rintro e w1 ⟨rfl,M8⟩;rw[Hq.out];have d2:=M8.cell (p:=⟨wr.heap.size,1,none⟩) (by simp);simp[go_sem]at d2
    have M9:Below w.heap.size w w1:=(M_.alloc M_.size _).trans (M8.mono (by have:=M_.size;simp;omega));have Um:=(HO.out.below ((Below.refl _ wr).alloc (Nat.le_refl _) _)).below M8;have OW:=ah Um;clear Um HO;go_wp2_with (at_builtin;refine gq w.heap.size f2 OW.out M9.size (by omega) rfl _ _ rfl rfl rfl ?_)
    intro v' w2 On Na _;have Nf:=M9.trans Na;have NM:Hid (aQ w.heap.size v' (af (xs.take (k+1)) name.data.toList) w2):=by rw[Hnx.out];exact Lib.hid On
    clear On Na M9 M8 d2;go_wp2;go_roundw
    case rel=>exact⟨k+1,by omega,by go_num,NM,Nf⟩
    case measure=>simp[intOf];omega
  ·have NI:k=xs.length:=by omega
   subst NI;have ho:=HO.out;rw[List.take_length]at ho;obtain⟨a,cap,rfl⟩:=ho.shape;have OW:=ah ho;clear ho HO;go_wp2;go_ret;exact⟨a,cap,rfl,OW.out,M_⟩
theorem cX(A:Option Addr)(n c:Nat)(xs:List aU)(name:ByteArray)(w:World)(hr:Rd A n 2 (aJ xs) w)(hn:n<=1000000)(hs:∀f∈xs,f.1.length<=1000000)(OQ:name.size<=1000000):Calls Tryz.prog 12 #[.slice A n c,.string name] w (fi w (af xs name.data.toList)):=qN A n c xs name w hr hn (λf hf=>Nat.le_trans (hs f hf) (by decide)) (by omega)
def jW(ls:List (List UInt8))(p:List UInt8):List (List UInt8):=bif p.isEmpty then ls else ls++[p]
theorem ro(ls:List (List UInt8))(p:List UInt8):(jW ls p).length<=ls.length+1:=by unfold jW;cases p.isEmpty<;>simp
def ea(sep:UInt8):Bool->Bool->List UInt8->List (List UInt8)->List UInt8->Option (List (List UInt8))
 |o,_,cur,ls,[]=>bif o then none else some (jW ls (bT cur))
 |o,b,cur,ls,c::r=>
  bif b then ea sep o false (cur++[c]) ls r
  else bif o&&c.toNat==92 then ea sep o true (cur++[c]) ls r
  else bif c.toNat==34 then ea sep (!o) false (cur++[c]) ls r
  else bif c.toNat==sep.toNat&&!o then ea sep o false [] (jW ls (bT cur)) r
  else ea sep o false (cur++[c]) ls r
def fG(t:Option (List (List UInt8))):List (List UInt8) × Int:=match t with
 |none=>([],4)
 |some ls=>bif decide (64<ls.length)then([],3)else(ls,0)
def ax(sep:UInt8)(l:List UInt8):List (List UInt8) × Int:=bif sep.toNat==34||sep.toNat==92 then([],2)else fG (ea sep false false [] [] l)
def fl:Bool->Bool->List UInt8->List Bool
 |_,_,[]=>[]
 |o,b,c::r=>(o||c.toNat==34)::(bif b then fl o false r else bif o&&c.toNat==92 then fl o true r else bif c.toNat==34 then fl (!o) false r else fl o false r)
def en:Bool->Bool->List UInt8->Bool
 |o,_,[]=>o
 |o,b,c::r=>bif b then en o false r else bif o&&c.toNat==92 then en o true r else bif c.toNat==34 then en (!o) false r else en o false r
theorem vW(sep:UInt8):∀(l:List UInt8)(o b:Bool)(cur:List UInt8)(ls ps:List (List UInt8)),ea sep o b cur ls l=some ps->ps.length<=ls.length+l.length+1
 | [],o,b,cur,ls,ps,h=>by
  cases o
  ·simp[ea]at h;subst h;have:=ro ls (bT cur);simp;omega
  ·simp[ea]at h
 |c::r,o,b,cur,ls,ps,h=>by
  have ih:=vW sep r;have ha:=ro ls (bT cur);rw[ea]at h;rw[List.length_cons]
  cases b
  ·simp only[cond_false]at h
   cases hx:(o&&c.toNat==92)<;>rw[hx]at h<;>simp only[cond_true,cond_false]at h
   ·cases Pp:(c.toNat==34)<;>rw[Pp]at h<;>simp only[cond_true,cond_false]at h
    ·cases hy:(c.toNat==sep.toNat&&!o)<;>rw[hy]at h<;>simp only[cond_true,cond_false]at h
     ·have:=ih _ _ _ _ _ h;omega
     ·have:=ih _ _ _ _ _ h;omega
    ·have:=ih _ _ _ _ _ h;omega
   ·have:=ih _ _ _ _ _ h;omega
  ·simp only[cond_true]at h;have:=ih _ _ _ _ _ h;omega
theorem CF(c:UInt8):jc (jc c)=jc c:=by
 by_cases h:(decide (65<=c.toNat)&&decide (c.toNat<=90))=true
 ·have h1:jc c=c+32:=by unfold jc;rw[h];rfl
  have h2:(c+32).toNat=c.toNat+32:=by simp at h;rw[UInt8.toNat_add];simp;omega
  have h3:(decide (65<=(c+32).toNat)&&decide ((c+32).toNat<=90))=false:=by simp at h ⊢;omega
  rw[h1];unfold jc;rw[h3];rfl
 ·have h':(decide (65<=c.toNat)&&decide (c.toNat<=90))=false:=by simpa using h
  have h1:jc c=c:=by unfold jc;rw[h'];rfl
  rw[h1,h1]
theorem qB(l:List UInt8):ai (ai l)=ai l:=by unfold ai;rw[List.map_map];apply List.map_congr_left;intro c _;exact CF c
theorem d_(l:List UInt8):(ai l).length=l.length:=by unfold ai;simp
theorem wL(p:UInt8->Bool):∀l:List UInt8,(l.dropWhile p).dropWhile p=l.dropWhile p
 | []=>rfl
 |c::r=>by
  cases h:p c
  ·rw[List.dropWhile_cons_of_neg (by simp[h]),List.dropWhile_cons_of_neg (by simp[h])]
  ·rw[List.dropWhile_cons_of_pos h];exact wL p r
theorem EW(p:UInt8->Bool)(l:List UInt8):∃a,l=a++l.dropWhile p:=⟨l.takeWhile p,(List.takeWhile_append_dropWhile).symm⟩
theorem C7(p:UInt8->Bool)(l:List UInt8)(h:∀c∈l,p c=false):l.dropWhile p=l:=by
 cases l with
 |nil=>rfl
 |cons c r=>rw[List.dropWhile_cons_of_neg (by simp[h c (by simp)])]
theorem By(l:List UInt8):bT (bT l)=bT l:=by
 unfold bT Lib.trimS Lib.trimLeftS Lib.trimRightS;generalize (λx=>br.contains x)=p;obtain⟨a,ha⟩:=EW p (l.reverse.dropWhile p).reverse;have hr:(l.reverse.dropWhile p).dropWhile p=l.reverse.dropWhile p:=wL _ _;generalize l.reverse.dropWhile p=r at*;have ht:=wL p r.reverse;generalize r.reverse.dropWhile p=t at*
 have h1:t.reverse.dropWhile p=t.reverse:=by
  have h2:r=t.reverse++a.reverse:=by rw[<-List.reverse_reverse r,ha];simp
  cases h3:t.reverse with
  |nil=>rfl
  |cons x y=>
   rw[h3]at h2;rw[h2]at hr
   cases hx:p x
   ·rw[List.dropWhile_cons_of_neg (by simp[hx])]
   ·exfalso
    rw[List.cons_append,List.dropWhile_cons_of_pos hx]at hr;have:=congrArg List.length hr;have h4:((y++a.reverse).dropWhile p).length<=(y++a.reverse).length:=(List.dropWhile_sublist p).length_le;rw[List.length_cons]at this;omega
 rw[h1,List.reverse_reverse,ht]
theorem rP{c:UInt8}(h:fL c=true):br.contains c=false/\(c.toNat==34)=false/\(c.toNat==92)=false:=by
 have h0:∀d:UInt8,fL d=true->(br.contains d=false/\(d.toNat==34)=false/\(d.toNat==92)=false):=by
  intro d hd;refine⟨?_,?_,?_⟩
  ·cases hb:br.contains d
   ·rfl
   ·have:d=32\/d=9:=by simpa[br]using hb
    rcases this with e|e<;>subst e<;>exact absurd hd (by decide)
  ·cases hb:(d.toNat==34)
   ·rfl
   ·have:d=34:=by rw[<-UInt8.toNat_inj];simpa using hb
    subst this;exact absurd hd (by decide)
  ·cases hb:(d.toNat==92)
   ·rfl
   ·have:d=92:=by rw[<-UInt8.toNat_inj];simpa using hb
    subst this;exact absurd hd (by decide)
 exact h0 c h
theorem jw{l:List UInt8}(h:be l=true):(∀c∈l,fL c=true)/\l.isEmpty=false:=by
 unfold be at h;rw[Bool.and_eq_true]at h;refine⟨λc hc=>List.all_eq_true.1 h.1 c hc,?_⟩
 cases hl:l.isEmpty
 ·rfl
 ·rw[hl]at h;exact absurd h.2 (by decide)
theorem Fe(l:List UInt8)(h:∀c∈l,fL c=true):bT l=l:=by unfold bT Lib.trimS Lib.trimLeftS Lib.trimRightS;have h1:l.reverse.dropWhile (λx=>br.contains x)=l.reverse:=C7 _ _ (λc hc=>(rP (h c (by simpa using hc))).1);rw[h1,List.reverse_reverse];exact C7 _ _ (λc hc=>(rP (h c hc)).1)
theorem CB{l:List UInt8}(h:be l=true):bT l=l:=Fe l (jw h).1
theorem zp(sep:UInt8):∀(l cur:List UInt8),(∀c∈l,fL c=true)->(∀c∈l,(c.toNat==sep.toNat)=false)->ea sep false false cur [] l=some (jW [] (bT (cur++l)))
 | [],cur,_,_=>by simp[ea]
 |c::r,cur,h1,h2=>by
  have hc:=rP (h1 c (by simp));have hs:=h2 c (by simp);rw[ea,hc.2.1,hs];simp only[cond_false,Bool.false_and];rw[zp sep r (cur++[c]) (λx hx=>h1 x (by simp[hx])) (λx hx=>h2 x (by simp[hx]))];simp
theorem zI{l:List UInt8}{sep:UInt8}(h:be l=true)(hs:∀c∈l,(c.toNat==sep.toNat)=false)(h1:(sep.toNat==34)=false)(h2:(sep.toNat==92)=false):ax sep l=([l],0):=by have ht:=jw h;unfold ax;rw[h1,h2,zp sep l [] ht.1 hs,List.nil_append,CB h];unfold jW;rw[ht.2];rfl
def aT(ls:List (List UInt8)):Nat:=(ls.map List.length).sum
theorem su(ls:List (List UInt8))(p:List UInt8):aT (jW ls p)=aT ls+p.length:=by
 unfold jW aT
 cases h:p.isEmpty
 ·simp
 ·simp at h;simp[h]
theorem vO(sep:UInt8):∀(l:List UInt8)(o b:Bool)(cur:List UInt8)(ls ps:List (List UInt8)),ea sep o b cur ls l=some ps->aT ps<=aT ls+cur.length+l.length
 | [],o,b,cur,ls,ps,h=>by
  cases o
  ·simp[ea]at h;subst h;have:=lr cur;rw[su];simp;omega
  ·simp[ea]at h
 |c::r,o,b,cur,ls,ps,h=>by
  have ih:=vO sep r;have ha:=su ls (bT cur);have hb:=lr cur;rw[ea]at h;rw[List.length_cons]
  cases b
  ·simp only[cond_false]at h
   cases hx:(o&&c.toNat==92)<;>rw[hx]at h<;>simp only[cond_true,cond_false]at h
   ·cases Pp:(c.toNat==34)<;>rw[Pp]at h<;>simp only[cond_true,cond_false]at h
    ·cases hy:(c.toNat==sep.toNat&&!o)<;>rw[hy]at h<;>simp only[cond_true,cond_false]at h
     ·have:=ih _ _ _ _ _ h;simp at this;omega
     ·have:=ih _ _ _ _ _ h;simp at this;omega
    ·have:=ih _ _ _ _ _ h;simp at this;omega
   ·have:=ih _ _ _ _ _ h;simp at this;omega
  ·simp only[cond_true]at h;have:=ih _ _ _ _ _ h;simp at this;omega
theorem ci(sep:UInt8)(l:List UInt8):aT (ax sep l).1<=l.length:=by
 unfold ax
 cases(sep.toNat==34||sep.toNat==92)
 ·cases h:ea sep false false [] [] l with
  |none=>simp[fG,aT]
  |some ls=>
   have h1:=vO sep l _ _ _ _ _ h;simp only[fG,cond_false]
   cases h:decide (64<ls.length)
   ·simpa[aT]using h1
   ·simp[aT]
 ·simp[aT]
theorem nD(sep:List UInt8):∀ls:List (List UInt8),(Lib.join ls sep).length<=aT ls+ls.length*sep.length
 | []=>by simp[Lib.join_nil]
 | [x]=>by rw[Lib.join_one];simp[aT]
 |x::y::r=>by
  have ih:=nD sep (y::r);rw[Lib.join_cons]at ih ⊢;unfold aT at*;simp[Lib.joinTail,Nat.add_mul]at ih ⊢
  omega
theorem cG{x:List UInt8}(h:x∈ls):x.length<=aT ls:=by
 unfold aT
 induction ls with
 |nil=>cases h
 |cons y r ih=>
  rw[List.map_cons,List.sum_cons];rcases List.mem_cons.1 h with rfl|h
  ·omega
  ·have:=ih h;omega
theorem yx(B cap:Nat)(a:Option Addr)(ls:List (List UInt8))(sep:ByteArray)(w:World)(h:aQ B (.slice a ls.length cap) ls w)(h1:ls.length<=1000000)(h2:aT ls+ls.length*sep.size<=100000000000):Calls Tryz.prog 179 #[.slice a ls.length cap,.string sep] w λe w'=>e=.returned (.string ⟨(Lib.join ls sep.data.toList).toArray⟩)/\Below w.heap.size w w':=by
 obtain⟨_,Pd,hg⟩:=h.room
 cases ls with
 |nil=>
  refine(Tryz.strings_Join_none a cap sep w).mono ?_;rintro e w' ⟨rfl,rfl⟩;exact⟨rfl,Below.refl _ _⟩
 |cons x r=>
  obtain⟨g,rfl,Qh⟩:=hg (by simp)
  have Pg:((x::r).map λl=>(⟨l.toArray⟩:ByteArray)).map (·.data.toList)=x::r:=by
   rw[List.map_map];have:((λb:ByteArray=>b.data.toList) ∘ λl:List UInt8=>(⟨l.toArray⟩:ByteArray))=id:=by funext l;simp
   rw[this,List.map_id]
  have hj:=nD sep.data.toList (x::r);rw[<-Lib.size_eq]at hj
  have k:=Tryz.strings_Join g 0 cap ((x :: r).map fun l=>(⟨l.toArray⟩:ByteArray)) sep w (by
   intro j y hy;obtain⟨hj1,Uk⟩:=List.getElem?_eq_some_iff.1 hy;have hj3:j<(x::r).length:=by simpa using hj1
   obtain⟨g',e,hc,_⟩:=h.cell j hj3
   cases e
   rw[Nat.zero_add,hc,<-Uk,List.getElem_map]) Qh (by rw[List.length_map];omega) (by rw[List.length_map];omega) (by rw[Pg];omega)
  rw[Pg,List.length_map]at k;exact k
def aE(xs:List aU):Nat:=(xs.map λf=>f.1.length+f.2.length).sum
theorem bM{xs:List aU}{f:aU}(h:f∈xs):f.1.length+f.2.length<=aE xs:=by
 unfold aE
 induction xs with
 |nil=>cases h
 |cons x r ih=>
  rw[List.map_cons,List.sum_cons];rcases List.mem_cons.1 h with rfl|h
  ·omega
  ·have:=ih h;omega
theorem lw(xs:List aU)(k:Nat):aE (xs.take k)<=aE xs:=by
 unfold aE
 conv=>rhs;rw[<-List.take_append_drop k xs,List.map_append,List.sum_append]
 omega
theorem qe(xs:List aU)(k:Nat)(h:k<xs.length):aE (xs.take (k+1))=aE (xs.take k)+(xs[k].1.length+xs[k].2.length):=by unfold aE;rw[List.take_succ_eq_append_getElem h,List.map_append,List.sum_append];rfl
theorem ik(xs:List aU)(name:List UInt8):aT (af xs name)<=aE xs:=by
 unfold af aT aE
 induction xs with
 |nil=>simp
 |cons x r ih=>
  rw[List.filter_cons,List.map_cons,List.sum_cons];by_cases h:(ai x.1==ai name)=true
  ·rw[if_pos h,List.map_cons,List.map_cons,List.sum_cons];omega
  ·rw[if_neg h];omega
def c_(xs:List aU)(name:List UInt8):List UInt8 × Bool:=(Lib.join (af xs name) [44,32],decide (0<(af xs name).length))
def ux(r:List UInt8 × Bool):Value:=.tuple #[.string ⟨r.1.toArray⟩,.bool r.2]
theorem nt(xs:List aU)(name:List UInt8):(c_ xs name).1.length<=aE xs+2*xs.length:=by have h1:=nD [44,32] (af xs name);have h2:=ik xs name;have h3:=cD xs name;have h4:([44,32]:List UInt8).length=2:=rfl;unfold c_;rw[h4]at h1;simp only;omega
theorem iN(A:Option Addr)(n c:Nat)(xs:List aU)(name:ByteArray)(w:World)(hr:Rd A n 2 (aJ xs) w)(hn:n<=1000000)(hs:aE xs<=1000000)(OQ:name.size<=1000000):Calls Tryz.prog 135 #[.slice A n c,.string name] w λe w'=>e=.returned (ux (c_ xs name.data.toList))/\Below w.heap.size w w':=by
 have QV:=hr.fld;have k1:=cX A n c xs name w hr hn (λf hf=>by have:=bM hf;omega) OQ;have hv:=ik xs name.data.toList;have QS:=cD xs name.data.toList;unfold c_ ux;simp only
 generalize af xs name.data.toList=ls at*;obtain⟨J,hJ⟩:=aH (⟨(Lib.join ls [44,32]).toArray⟩:ByteArray);rw[hJ];have TC:decide (0<ls.length)=decide ((ls.length:Int)>0):=by rw[decide_eq_decide];omega
 have k2:=λ(a:Option Addr)(c:Nat)(w1:World)(h:aQ w.heap.size (.slice a ls.length c) ls w1)=>yx w.heap.size c a ls ⟨#[44,32]⟩ w1 h (by omega) (by rw[show(⟨#[44,32]⟩:ByteArray).size=2 from rfl];omega)
 rw[show(⟨#[44,32]⟩:ByteArray).data.toList=[44,32]from rfl,hJ]at k2;rw[TC];clear TC hJ;obtain⟨K1,K2⟩:=az k1 k2;clear k1 k2 hv hs hn OQ hr QV QS;go_enter Tryz.func135,Tryz.ntmps135
 go_wp2_with fail
 refine K1.out.mono ?_;rintro e w1 ⟨a1,c1,rfl,Nr,M8⟩;have K3:=ah (K2.out a1 c1 w1 Nr);clear K1 K2 Nr;go_wp2_with fail
 refine K3.out.mono ?_;rintro e w2 ⟨rfl,M9⟩;go_wp2;go_ret2
 refine⟨?_,bt M8 M9⟩;simp
end Go.Proofs.YtdbjnlkbhhebbaaGreatDoor
