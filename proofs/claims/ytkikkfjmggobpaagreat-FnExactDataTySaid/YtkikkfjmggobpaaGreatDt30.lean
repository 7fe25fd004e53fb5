/- Parts of the proof, merged: Ut15, DtP. -/
import Derived.Test.YtkikkfjmggobpaaGreatDt29
namespace Go.Proofs.YtkikkfjmggobpaaGreat
open Go.RowKit
set_option maxRecDepth 100000
set_option maxHeartbeats 16000000
set_option linter.unusedVariables false
set_option linter.unusedSimpArgs false
attribute [local go_sem] Ext.cell
theorem Sl.atT {α:Type} {R:Reading α} {sz lo n c:Nat} {w:World} {a:Option Addr} {xs:List α} (h:Sl R sz lo w (.slice a n c) xs):SlAt R sz lo w a xs:=by
 obtain⟨a',c',hv,_,_,h3⟩:=h
 injection hv with e1 e2 e3;subst e1;exact h3
def fiveB:List ByteArray:=[nmInt,nmBool,nmString,nmUnit,nmList]
theorem five_given {nm:ByteArray} (h:nm∈fiveB):0<=givenN nm:=by
 simp only[fiveB,List.mem_cons,List.not_mem_nil,or_false]at h
 rcases h with rfl|rfl|rfl|rfl|rfl<;>decide
theorem given_not {nm:ByteArray} (hok:nameOk nm=true) (h:nm ∉ fiveB) : ¬ 0<=givenN nm:=fun hg=>by
 simp only[fiveB,List.mem_cons,List.not_mem_nil,or_false,not_or]at h
 obtain⟨h1,h2,h3,h4,h5⟩:=h
 unfold givenN at hg
 rw[if_neg (by rintro (h|h|h|h)<;>contradiction)]at hg
 split at hg
 ·rename_i h6
  rcases h6 with h6|rfl
  ·exact h5 h6
  ·have hk:isKw nmRef=true:=List.any_eq_true.2 ⟨nmRef,by simp[kwB],by simp⟩
   unfold nameOk at hok
   rw[hk]at hok
   simp at hok
 ·split at hg
  ·rename_i h6
   rcases h6 with rfl|rfl<;>exact absurd hok (by decide)
  ·omega
theorem name_emp (it:GTyItem):it.name.toList.isEmpty=false ↔ it.name≠ByteArray.empty:=by
 constructor
 ·intro h e
  rw[e,show ByteArray.empty=(⟨#[]⟩ : ByteArray) from rfl,empB]at h
  cases h
 ·intro h
  cases hh:it.name.toList.isEmpty
  ·rfl
  ·exact absurd (ba_nil hh) h
def namesTo (Ts:List GType) (t:Nat):List ByteArray:=(Ts.take t).flatMap fun x=>x.cons.map (·.name)
theorem names_succ {Ts:List GType} {t:Nat} {x:GType} (h:Ts[t]? = some x):namesTo Ts (t+1)=namesTo Ts t++x.cons.map (·.name):=by
 unfold namesTo;rw[take_snoc' h,List.flatMap_append];simp
theorem names_mem {Ts:List GType} {t c:Nat} {x:GType} (h:Ts[t]? = some x) {nm:ByteArray} : nm∈namesTo Ts t++(x.cons.take c).map (·.name) ↔ Earlier Ts t c nm:=by
 unfold namesTo Earlier
 rw[List.mem_append,List.mem_flatMap]
 constructor
 ·rintro (⟨ti,h1,h2⟩|h1)
  ·obtain⟨i,hi⟩:=List.getElem?_of_mem h1
   rw[List.getElem?_take]at hi
   split at hi
   ·rename_i hit
    obtain⟨ci,h3,h4⟩:=List.mem_map.1 h2
    obtain⟨j,hj⟩:=List.getElem?_of_mem h3
    exact⟨i,j,ti,ci,hi,hj,h4,.inl hit⟩
   ·cases hi
  ·obtain⟨ci,h3,h4⟩:=List.mem_map.1 h1
   obtain⟨j,hj⟩:=List.getElem?_of_mem h3
   rw[List.getElem?_take]at hj
   split at hj
   ·rename_i hjc
    exact⟨t,j,x,ci,h,hj,h4,.inr ⟨rfl,hjc⟩⟩
   ·cases hj
 ·rintro ⟨i,j,ti,ci,h1,h2,h3,h4|⟨rfl,h4⟩⟩
  ·exact .inl ⟨ti,List.mem_of_getElem? (by rw[List.getElem?_take,if_pos h4];exact h1),List.mem_map.2 ⟨ci,List.mem_of_getElem? h2,h3⟩⟩
  ·rw[h]at h1
   obtain rfl:=Option.some.inj h1
   exact .inr (List.mem_map.2 ⟨ci,List.mem_of_getElem? (by rw[List.getElem?_take,if_pos h4];exact h2),h3⟩)
theorem known_of {p:GProgram} (h:chkOk p) {t:Nat} {x:GType} (hx:p.types[t]? = some x) {y:GCon} (hy:y∈x.cons) {it:GTyItem} (hit:it∈y.arg.items) (hn:it.name≠ByteArray.empty) (har:0<=it.arity):knownI p.types it.name it.arity=true:=by
 have h1:=(h.2 t x hx).2.2 y hy it hit hn
 unfold knownP at h1
 unfold knownI
 rw[Bool.or_eq_true,decide_eq_true_iff,List.any_eq_true]at h1
 split
 ·rename_i hg
  rcases h1 with⟨t',h2,h3⟩|h1
  ·obtain⟨i,hi⟩:=List.getElem?_of_mem h2
   have h4:=(h.2 i t' hi).1.1
   have h5:=of_decide_eq_true h3
   rw[h5.1]at h4
   exact absurd hg h4
  ·exact decide_eq_true h1
 ·rename_i hg
  rcases h1 with⟨t',h2,h3⟩|h1
  ·have h5:=of_decide_eq_true h3
   exact List.any_eq_true.2 ⟨t',h2,by rw[h5.1,h5.2];simp⟩
  ·omega
theorem knownP_of {Ts:List GType} {nm:ByteArray} {ar:Int} (h:knownI Ts nm ar=true):knownP Ts nm ar=true:=by
 unfold knownI at h
 unfold knownP
 rw[Bool.or_eq_true]
 split at h
 ·exact .inr h
 ·obtain⟨t,h1,h2⟩:=List.any_eq_true.1 h
  rw[Bool.and_eq_true,beq_iff_eq,beq_iff_eq,toList_eq]at h2
  exact .inl (List.any_eq_true.2 ⟨t,h1,decide_eq_true h2⟩)
theorem type_parts2 {p:GProgram} (h:progOk p=true) {t:Nat} {x:GType} (hx:p.types[t]? = some x):nameOk x.name=true/\∀y∈x.cons,∀it∈y.arg.items,0<=it.arity:=by
 unfold progOk shapeP at h
 rw[Bool.and_eq_true,Bool.and_eq_true,Bool.and_eq_true,Bool.and_eq_true,Bool.and_eq_true,List.all_eq_true,List.all_eq_true]at h
 obtain⟨⟨⟨-,h1⟩,-,-,h2⟩,-⟩:=h
 obtain⟨h5,-,h3,h4⟩:=typeOk_parts (h2 x (List.mem_of_getElem? hx))
 refine⟨h5,fun y hy it hit=>?_⟩
 have hc1:=(h4 y hy).1
 cases hh:y.has
 ·rw[conHas_no hc1 hh]at hit;cases hit
 ·have hty:tyOk y.arg=true:=by unfold conHas at hc1;rwa [if_pos hh]at hc1
  exact(itemOk_ar (tyOk_items hty it hit)).1
theorem checkTypes1_c (t:GType) (r:List Value) (lo:Nat) (w:World) (hr:GType.R lo w r t) (b:Nat) (tnm:ByteArray) (pr:Int) (c:Value) (hb:RowAt w b 0 [.string tnm,.int .i64 pr,c]) :
  Calls Tryz.prog 61 #[.agg r.toArray,.pointer (some ⟨b,0,none⟩)] w fun e w'=>e=.returned (.bool (t.name.toList == tnm.toList))/\Below w.heap.size w w':=by
 obtain⟨u,rfl,-,hs⟩:=hr
 obtain⟨ua,uc,rfl⟩:=hs.form
 obtain⟨b_0,b_1,b_2⟩:=hb.box3
 have hbl:=World.block_lt_of_cell? _ _ b_0;dsimp only at hbl
 generalize t.name=tn at *
 generalize t.params=tp at *
 generalize t.cons.length=m at *
 clear hs
 show Calls Tryz.prog 61 #[.agg #[.string tn,.int .i64 tp,.slice ua m uc],.pointer (some ⟨b,0,none⟩)] w _
 go_enter Tryz.func61,Tryz.ntmps61
 go_wp2_with fail
 go_returns
 exact⟨by first|rfl|simp,by go_grown⟩
theorem checkTypes2_c (Ts:List GType) (hTl:Ts.length<=1000000) (it:GTyItem) (r:List Value) (lo:Nat) (w:World) (hr:GTyItem.R lo w r it) (b:Nat) (tv nv:Value) (hb:RowAt w b 0 [tv,nv]) (hM:Sl GType.R 3 0 w tv Ts) :
  Calls Tryz.prog 64 #[.agg r.toArray,.pointer (some ⟨b,0,none⟩)] w fun e w'=>e=.returned (.bool (!it.name.toList.isEmpty && !knownI Ts it.name it.arity))/\Below w.heap.size w w':=by
 obtain⟨rfl,-⟩:=hr
 have cK:=fun W (hW:Below w.heap.size w W)=>knownTy_c Ts hTl tv it.var it.arity it.name W (hM.below GType.good hW)
 obtain⟨ta,tc,rfl⟩:=hM.form
 obtain⟨b_0,b_1⟩:=hb.box2
 have hbl:=World.block_lt_of_cell? _ _ b_0;dsimp only at hbl
 generalize knownI Ts it.name it.arity=kq at *
 obtain⟨va,nm,ar⟩:=it
 generalize Ts.length=m at *
 dsimp only at *
 obtain⟨q,hq⟩ : ∃q,nm.toList.isEmpty=q:=⟨_,rfl⟩
 have hq2:(nm.toList == [])=q:=by rw[<- hq];cases nm.toList<;>rfl
 have hq3:(nm.toList != ([] : List UInt8)) = !q:=by rw[bne,hq2]
 replace cK:=kH cK
 rw[hq]
 clear hM hq
 show Calls Tryz.prog 64 #[.agg #[.int .i64 va,.string nm,.int .i64 ar],.pointer (some ⟨b,0,none⟩)] w _
 go_enter Tryz.func64,Tryz.ntmps64
 go_upto_region 1 with fail
 have X:RowAt (w.alloc (.cells #[.int .i64 va,.string nm,.int .i64 ar] 107)) (w.heap.size) 0 [.int .i64 va,.string nm,.int .i64 ar]:=RowAt.box w #[.int .i64 va,.string nm,.int .i64 ar] 107
 have hw:Below w.heap.size w (w.alloc (.cells #[.int .i64 va,.string nm,.int .i64 ar] 107)):=by go_grown
 generalize (w.alloc (.cells #[.int .i64 va,.string nm,.int .i64 ar] 107))=w0 at *
 have B0:=hb.below hw
 obtain⟨x_0,x_1,x_2⟩:=X.box3;have hsX:=bLt x_0;obtain⟨b0_0,b0_1⟩:=B0.box2;have hsB0:=bLt b0_0
 have cK0:=cK.out w0 hw
 cases q
 ·go_wp2_with (go_at_call 65;(with_reducible refine cK0.mono ?_);rintro e w2 ⟨rfl,hb2⟩)
  go_returns
  exact⟨by first|rfl|simp,hw.trans (hb2.mono hw.size)⟩
 ·go_wp2_with fail
  go_returns
  exact⟨by first|rfl|simp,hw⟩
theorem strRow5 {w:World} {g:Nat} (h:RowAt w g 0 [.string nmInt,.string nmBool,.string nmString,.string nmUnit,.string nmList]):Sl StrR 1 0 w (.slice (some ⟨g,0,none⟩) 5 5) fiveB:=by
 refine⟨_,5,rfl,Nat.le_refl _,by decide,fun _=>⟨g,0,Nat.zero_le _,rfl,fun i x hx=>?_⟩⟩
 have hr:∀ (j:Nat) s,fiveB[j]? = some s->StrOk s:=fun j s hs=>by
  have:=List.mem_of_getElem? hs
  simp only[fiveB,List.mem_cons,List.not_mem_nil,or_false]at this
  rcases this with rfl|rfl|rfl|rfl|rfl<;>exact strok (by decide)
 refine⟨_,⟨rfl,hr i x hx⟩,fun j c hc=>?_⟩
 match j,hc with
 |0,hc=>
  obtain rfl:=Option.some.inj hc
  have:=h i (.string x) (by
   match i,hx with
   |0,hx=>obtain rfl:=Option.some.inj hx;rfl
   |1,hx=>obtain rfl:=Option.some.inj hx;rfl
   |2,hx=>obtain rfl:=Option.some.inj hx;rfl
   |3,hx=>obtain rfl:=Option.some.inj hx;rfl
   |4,hx=>obtain rfl:=Option.some.inj hx;rfl
   |i+5,hx=>simp[fiveB]at hx)
  simpa using this
 |j+1,hc=>simp at hc
theorem info_StrU:(Tryz.prog.info? 9).map (fun i=>(i.zero,i.size,i.bytes))=some (some (.string ⟨#[]⟩),1,16):=by kernel_rfl
abbrev OwnB (B:Nat) (w:World) (v:Value) (xs:List ByteArray):Prop:=OwnF 9 1 strRow StrOk B w v xs
theorem ownB_app {B g2 cap2 vn:Nat} {w w6:World} {ov:Value} {Pi:List ByteArray} {v:ByteArray} (T:OwnB B w ov Pi) (hvn:vn=Pi.length) (hwf:StrOk v)
  (hown:w6.ownsRow B 9 1 (.slice (some ⟨g2,0,none⟩) (vn+1) cap2) (vn+1) (rowsOf strRow Pi ++ [.string v])):OwnB B w6 (.slice (some ⟨g2,0,none⟩) (vn+1) cap2) (Pi ++ [v]):=by
 refine⟨?_,fun y hy=>?_⟩
 ·rw[List.length_append,<- hvn,rowsOf_append,rowsOf_one];exact hown
 ·rcases List.mem_append.1 hy with h|h
  ·exact T.2 y h
  ·simp only[List.mem_singleton]at h;rw[h];exact hwf
theorem implCheckTypes_c (p:GProgram) (hs:ProgSm p) (r:List Value) (w:World) (hr:GProgram.R 0 w r p) :
  Calls Tryz.prog 28 #[.agg r.toArray] w fun e w'=>CTPost (chkOk p) w e w':=by
 have cP:=fun W (hW:Below w.heap.size w W)=>ProgramOk_c p hs r 0 W (GProgram.good.below hr hW)
 obtain⟨u0,u1,rfl,_,hT,hN⟩:=hr
 obtain⟨na,nc,rfl⟩:=hN.form
 obtain⟨ta,tc,rfl,tl,tm,t0⟩:=hT
 obtain⟨tn,hn⟩ : ∃n,n=p.types.length:=⟨_,rfl⟩
 obtain⟨nn,hnn⟩ : ∃n,n=p.nodes.length:=⟨_,rfl⟩
 rw[<- hn,<- hnn]at cP ⊢
 rw[<- hn]at tl
 have hfail:progOk p=false->¬ chkOk p:=fun h hc=>by rw[hc.1]at h;cases h
 have hall:progOk p=true->(∀t,t<tn->∀x,p.types[t]? = some x->chkT p.types t x)->chkOk p:=fun h h2=>⟨h,fun t x hx=>h2 t (by rw[hn];exact(List.getElem?_eq_some_iff.1 hx).1) x hx⟩
 have hbad:∀ (t:Nat) x,p.types[t]? = some x->¬ chkT p.types t x->¬ chkOk p:=fun t x h1 h2 h3=>h2 (h3.2 t x h1)
 have hsz:=chk_sizes (p:=p)
 have htp:progOk p=true->∀ (t:Nat) (x:GType),p.types[t]? = some x->nameOk x.name=true:=fun h t x hx=>(type_parts2 (p:=p) h hx).1
 have hkn:progOk p=true->chkOk p->∀ (t:Nat) (x:GType) (hx:p.types[t]? = some x) (y:GCon) (hy:y∈x.cons) (it:GTyItem) (hit:it∈y.arg.items) (hn:it.name≠ByteArray.empty),knownI p.types it.name it.arity=true:=fun h0 h t x hx y hy it hit hn=>known_of h hx hy hit hn ((type_parts2 h0 hx).2 y hy it hit)
 rw[<- hn]at hsz
 have tK:∀W,Below w.heap.size w W->SlAt GType.R 3 0 W ta p.types:=fun W hW=>t0.below GType.good hW
 have tSl:∀W,Below w.heap.size w W->Sl GType.R 3 0 W (.slice ta tn tc) p.types:=fun W hW=>⟨ta,tc,by rw[hn],by rw[<- hn];exact tl,tm,tK W hW⟩
 generalize hpo:progOk p=po at *
 generalize chkOk p=Q at *
 generalize p.types=Ts at *
 show Calls Tryz.prog 28 #[.agg #[.slice ta tn tc,.slice na nn nc]] w _
 replace cP:∀W,Below w.heap.size w W->Calls Tryz.prog 59 #[.agg #[.slice ta tn tc,.slice na nn nc]] W fun e w'=>e=.returned (.bool po)/\Below W.heap.size W w':=cP
 clear t0 hN hs hpo hnn
 replace tK:=kH tK;replace tSl:=kH tSl;replace hn:=kH hn;replace hall:=kH hall;replace hbad:=kH hbad;replace hsz:=kH hsz;replace cP:=kH cP;replace hfail:=kH hfail;replace htp:=kH htp;replace hkn:=kH hkn
 cases po
 ·have hq:=hfail.out rfl
  clear hall hbad hsz htp hkn
  replace hq:=kH hq
  go_enter Tryz.func28,Tryz.ntmps28
  go_upto_region 1 with fail
  have B:RowAt (w.alloc (.cells #[.slice ta tn tc,.slice na nn nc] 39)) (w.heap.size) 0 [.slice ta tn tc,.slice na nn nc]:=RowAt.box w #[.slice ta tn tc,.slice na nn nc] 39
  have hw:Below w.heap.size w (w.alloc (.cells #[.slice ta tn tc,.slice na nn nc] 39)):=by go_grown
  generalize (w.alloc (.cells #[.slice ta tn tc,.slice na nn nc] 39))=w0 at *
  obtain⟨b_0,b_1⟩:=B.box2;have hsB:=bLt b_0
  go_wp2_with (go_at_call 59;(with_reducible refine(cP.out _ hw).mono ?_);rintro e w2 ⟨rfl,hb2⟩)
  go_returns
  exact CTPost.no hq.out (hw.trans (hb2.mono hw.size)) 1 0 (by decide)
 have hz8:=(hsz.out rfl).1
 have hsz2:=(hsz.out rfl).2
 have hall2:=hall.out rfl
 have htp2:=htp.out rfl
 have hkn2:=hkn.out rfl
 clear hsz hall hfail htp hkn
 replace hsz2:=kH hsz2;replace hall2:=kH hall2;replace htp2:=kH htp2;replace hkn2:=kH hkn2
 obtain⟨iJ,hi0,hz0,hz1,hz2⟩:=info_parts info_StrU;have IJ:=kH hi0;have IJ0:=kH hz0;have IJ1:=kH hz1;have IJ2:=kH hz2;clear hi0 hz0 hz1 hz2
 go_enter Tryz.func28,Tryz.ntmps28
 go_upto_region 1 with fail
 have B:RowAt (w.alloc (.cells #[.slice ta tn tc,.slice na nn nc] 39)) (w.heap.size) 0 [.slice ta tn tc,.slice na nn nc]:=RowAt.box w #[.slice ta tn tc,.slice na nn nc] 39
 have hw:Below w.heap.size w (w.alloc (.cells #[.slice ta tn tc,.slice na nn nc] 39)):=by go_grown
 generalize (w.alloc (.cells #[.slice ta tn tc,.slice na nn nc] 39))=w0 at *
 obtain⟨b_0,b_1⟩:=B.box2;have hsB:=bLt b_0
 go_upto_region 4 with(go_at_call 59;(with_reducible refine(cP.out _ hw).mono ?_);rintro e w2 ⟨rfl,hb⟩;have hw:=hw.trans (hb.mono hw.size);have B:=B.below hb;obtain⟨b_0,b_1⟩:=B.box2;have hsB:=bLt b_0;clear hb)
 clear cP
 obtain⟨w3,hW3⟩ : ∃W,W=w2.alloc (.cells #[] 9):=⟨_,rfl⟩
 rw[<- hW3]
 have hb3:Below w2.heap.size w2 w3:=by rw[hW3];go_grown
 have hwz2:w.heap.size+1<=w2.heap.size:=by have:=World.block_lt_of_cell? _ _ b_0;dsimp only at this;omega
 have O3:OwnB (w.heap.size+1) w3 (.slice (some ⟨w2.heap.size,0,none⟩) 0 0) (namesTo Ts 0):=by
  have e0:namesTo Ts 0=[]:=rfl
  rw[e0,hW3]
  exact⟨own_empty_at (by have h:=heap_alloc_new' w2 (.cells #[] 9) _ rfl;simpa using h) hwz2,fun x h=>(by cases h)⟩
 have hbl:∀t≤tn,(namesTo Ts t).length<=8*t:=fun t ht=>by
  induction t with
  |zero=>simp[namesTo]
  |succ t ih=>
   obtain⟨x,hx⟩ : ∃x,Ts[t]? = some x:=⟨_,List.getElem?_eq_getElem (by have:=hn.out;omega)⟩
   rw[names_succ hx,List.length_append,List.length_map]
   have:=ih (by omega)
   have:=(hsz2.out x (List.mem_of_getElem? hx)).1
   omega
 have hw3:=hw.trans (hb3.mono hw.size)
 have B3:=B.below hb3
 generalize (Value.slice (some ⟨w2.heap.size,0,none⟩) 0 0)=ov0 at *
 replace O3:=kH O3;replace hbl:=kH hbl
 clear hW3 hb3 b_0 b_1 hsB B hw
 obtain⟨b3_0,b3_1⟩:=B3.box2;have hsB3:=bLt b3_0
 go_wp2_with fail
 go_loopw [4,19] (fun sv ii wr=>∃ (t:Nat) (ov:Value),ov=sv/\t<=tn/\ii=.int .i64 t/\Hid (OwnB (w.heap.size+1) wr ov (namesTo Ts t))/\Hid (∀i,i<t->∀x,Ts[i]? = some x->chkT Ts i x)/\Below w.heap.size w wr/\RowAt wr w.heap.size 0 [.slice ta tn tc,.slice na nn nc]) (fun _ ii _=>tn-(intOf ii).toNat)
 case atStart=>exact⟨0,_,rfl,by omega,rfl,O3,kH (fun i h=>by omega),hw3,B3⟩
 case round=>
  clear O3 hw3 B3 b3_0 b3_1 hsB3 hwz2
  obtain⟨t,ov,rfl,ht,rfl,O,hf,hw,B⟩:=hrel
  have hz:=hw.size
  have hblt:=hbl.out t ht
  obtain⟨b_0,b_1⟩:=B.box2;have hsB:=bLt b_0
  by_cases hlt:t<tn
  ·obtain⟨b1,o1,x,r1,_,hta,P1,⟨u0,rfl,hwf,hcs⟩,hr1⟩:=(tK.out w (Below.refl _ _)).get hn.out hlt
   subst hta
   replace hr1:=hr1.below hw
   obtain⟨ca,cc,rfl⟩:=hcs.form
   have hbadx:=hbad.out t x P1.out
   have hszx:=hsz2.out x (List.mem_of_getElem? P1.out)
   have hnx:chkT Ts t x->∀i,i<t+1->∀x,Ts[i]? = some x->chkT Ts i x:=fun h i hi y hy=>by
    by_cases hii:i<t
    ·exact hf.out i hii y hy
    ·obtain rfl:i=t:=by omega
     rw[P1.out]at hy;injection hy with hy;subst hy;exact h
   have hmem:=fun c nm=>names_mem (c:=c) P1.out (nm:=nm)
   have hns:=names_succ P1.out
   have hnok:=htp2.out t x P1.out
   have hknx:=fun hq=>hkn2.out hq t x P1.out
   have hear:((Ts.take t).any fun y=>y.name.toList == x.name.toList)=true ↔ ∃i,i<t/\∃y,Ts[i]? = some y/\y.name=x.name:=by
    rw[List.any_eq_true]
    constructor
    ·rintro ⟨y,h1,h2⟩
     obtain⟨i,hi⟩:=List.getElem?_of_mem h1
     rw[List.getElem?_take]at hi
     split at hi
     ·rename_i hit;exact⟨i,hit,y,hi,by rw[beq_iff_eq,toList_eq]at h2;exact h2⟩
     ·cases hi
    ·rintro ⟨i,h1,y,h2,h3⟩
     exact⟨y,List.mem_of_getElem? (by rw[List.getElem?_take,if_pos h1];exact h2),by rw[h3];simp⟩
   have hfv:(fiveB.any fun y=>x.name.toList == y.toList)=true ↔ x.name∈fiveB:=by
    rw[List.any_eq_true]
    constructor
    ·rintro ⟨y,h1,h2⟩;rw[beq_iff_eq,toList_eq]at h2;rw[h2];exact h1
    ·intro h;exact⟨x.name,h,by simp⟩
   have cT:=fun W (hW:Below w.heap.size w W) xb (c:Value) (hX:RowAt W xb 0 [.string x.name,.int .i64 x.params,c])=>containsFuncType_c (Ts.take t) (fun y=>y.name.toList == x.name.toList) 61 #[.pointer (some ⟨xb,0,none⟩)] 0 (.slice (some ⟨b1,o1,none⟩) t tc) W ⟨_,tc,by rw[List.length_take];congr 1;have:=hn.out;omega,by rw[List.length_take];omega,tm,((tK.out W hW).take t)⟩ (fun i y r W2 hy hW2 hr=>checkTypes1_c y r 0 W2 hr xb x.name x.params c (hX.below hW2)) (fun _ _=>by kernel_rfl)
   have cFive:=fun W g (hg:RowAt W g 0 [.string nmInt,.string nmBool,.string nmString,.string nmUnit,.string nmList])=>containsS_c fiveB x.name 0 _ W (strRow5 hg)
   obtain⟨ear,hear'⟩ : ∃q,q=((Ts.take t).any fun y=>y.name.toList == x.name.toList):=⟨_,rfl⟩
   obtain⟨fv,hfv'⟩ : ∃q,q=(fiveB.any fun y=>x.name.toList == y.toList):=⟨_,rfl⟩
   rw[<- hear']at hear cT
   rw[<- hfv']at hfv cFive
   obtain⟨tnm,htnm⟩ : ∃q,q=x.name:=⟨_,rfl⟩
   obtain⟨pr,hpr⟩ : ∃q,q=x.params:=⟨_,rfl⟩
   obtain⟨cn,hcn⟩ : ∃q,q=x.cons.length:=⟨_,rfl⟩
   rw[<- hcn,<- htnm,<- hpr]at hr1
   rw[<- hcn]at hszx
   rw[<- htnm,<- hpr]at cT
   rw[<- htnm]at cFive hfv hear hnok
   have hcn8:=hszx.1
   have e_0:wr.cell? ⟨b1,o1+t*3,none⟩=some (.string tnm):=by simpa using hr1 0 _ rfl
   have e_1:wr.cell? ⟨b1,o1+t*3+1,none⟩=some (.int .i64 pr):=hr1 1 _ rfl
   have e_2:wr.cell? ⟨b1,o1+t*3+2,none⟩=some (.slice ca cn cc):=hr1 2 _ rfl
   have hbb1:=World.block_lt_of_cell? _ _ e_0;dsimp only at hbb1
   have cK:∀W,Below w.heap.size w W->Sl GCon.R 3 0 W (.slice ca cn cc) x.cons:=fun W hW=>by rw[hcn];exact hcs.below GCon.good hW
   have hM2:∀W,Below w.heap.size w W->Sl GType.R 3 0 W (.slice (some ⟨b1,o1,none⟩) tn tc) Ts:=tSl.out
   have hTl:=hn.out
   clear hr1 hcs hwf hszx P1
   replace hbadx:=kH hbadx;replace hnx:=kH hnx;replace htnm:=kH htnm;replace hpr:=kH hpr;replace hcn:=kH hcn;replace cT:=kH cT;replace cFive:=kH cFive;replace cK:=kH cK;replace hmem:=kH hmem;replace hns:=kH hns;replace hnok:=kH hnok;replace hknx:=kH hknx;replace hear:=kH hear;replace hfv:=kH hfv;replace hear':=kH hear';replace hfv':=kH hfv';replace hM2:=kH hM2;replace hTl:=kH hTl
   go_upto_region 7 with fail
   obtain⟨w4,hW4⟩ : ∃W,W=wr.alloc (.cells #[.string tnm,.int .i64 pr,.slice ca cn cc] 101):=⟨_,rfl⟩
   rw[<- hW4]
   have hb4:Below wr.heap.size wr w4:=by rw[hW4];go_grown
   have X4:RowAt w4 wr.heap.size 0 [.string tnm,.int .i64 pr,.slice ca cn cc]:=by rw[hW4];exact RowAt.box wr #[_,_,_] _
   have B4:=B.below hb4
   have O4:=O.out.below hb4
   have hw:=hw.trans (hb4.mono hz)
   obtain⟨xb,hxb⟩ : ∃q,q=wr.heap.size:=⟨_,rfl⟩
   rw[<- hxb]at X4 ⊢
   have hxw:w.heap.size<xb:=by have:=World.block_lt_of_cell? _ _ b_0;dsimp only at this;omega
   have hbo:∀g,ov.ownBlock=some g->g≠xb/\g≠w.heap.size:=fun g hg=>by have:=O.out.base g hg;omega
   have cT4:=cT.out w4 hw xb _ X4
   have z1:(t:Int)<=(tn:Int):=by omega
   have z2:(t:Int)<=(tc:Int):=by omega
   replace hxb:=kH hxb;replace O4:=kH O4;replace hbo:=kH hbo;replace cT4:=kH cT4
   clear hW4 hb4 e_0 e_1 e_2 hbb1 B b_0 b_1 hsB O cT
   obtain⟨b4_0,b4_1⟩:=B4.box2;have hsB4:=bLt b4_0;obtain⟨x4_0,x4_1,x4_2⟩:=X4.box3;have hsX4:=bLt x4_0
   go_upto_region 8 with(go_at_call 60;(with_reducible refine(cT4.out).mono ?_);rintro e w5 ⟨rfl,hb⟩;have O5:=kH (O4.out.below hb);have hw:=hw.trans (hb.mono hw.size);have B4:=B4.below hb;obtain⟨b4_0,b4_1⟩:=B4.box2;have hsB4:=bLt b4_0;have X4:=X4.below hb;obtain⟨x4_0,x4_1,x4_2⟩:=X4.box3;have hsX4:=bLt x4_0;clear hb)
   clear cT4 O4
   cases ear
   rotate_left
   ·have hq:=hbadx.out (fun h=>by
     obtain⟨i,h1,y,h2,h3⟩:=hear.out.1 rfl
     exact h.1.2 i h1 y h2 (by rw[h3,htnm.out]))
    replace hq:=kH hq
    go_wp2_with fail
    go_returns
    exact CTPost.no hq.out hw 11 (t:Int) (by decide)
   have hz5:=hw.size
   obtain⟨w6,hW6⟩ : ∃W,W=w5.alloc (.cells #[.string nmInt,.string nmBool,.string nmString,.string nmUnit,.string nmList] 9):=⟨_,rfl⟩
   have hb6:Below w5.heap.size w5 w6:=by rw[hW6];go_grown
   have R6:RowAt w6 w5.heap.size 0 [.string nmInt,.string nmBool,.string nmString,.string nmUnit,.string nmList]:=by rw[hW6];exact RowAt.box w5 #[.string nmInt,.string nmBool,.string nmString,.string nmUnit,.string nmList] 9
   have cF6:=cFive.out w6 w5.heap.size R6
   rw[hW6]at cF6
   replace cF6:=kH cF6;replace hW6:=kH hW6
   clear R6
   go_upto_if 36 with(go_at_call 62;(with_reducible refine(cF6.out).mono ?_);rintro e w7 ⟨rfl,hb7⟩;rw[<- hW6.out]at hb7)
   have hb:=hb6.trans (hb7.mono hb6.size)
   have O7:=kH (O5.out.below hb)
   clear hb6 hb7 cF6 cFive b4_0 b4_1 hsB4 x4_0 x4_1 x4_2 hsX4
   have hw:=hw.trans (hb.mono hw.size);have B4:=B4.below hb;obtain⟨b4_0,b4_1⟩:=B4.box2;have hsB4:=bLt b4_0;have X4:=X4.below hb;obtain⟨x4_0,x4_1,x4_2⟩:=X4.box3;have hsX4:=bLt x4_0;clear hb
   cases fv
   rotate_left
   ·have hq:=hbadx.out (fun h=>h.1.1 (by rw[<- htnm.out];exact five_given (hfv.out.1 rfl)))
    replace hq:=kH hq
    go_wp2_with fail
    go_returns
    exact CTPost.no hq.out hw 11 (t:Int) (by decide)
   have hname : ¬ 0<=givenN x.name/\∀i,i<t->∀y,Ts[i]? = some y->y.name≠x.name:=by
    refine⟨by rw[<- htnm.out];exact given_not hnok.out (fun h=>by have:=hfv.out.2 h;cases this),fun i h1 y h2 h3=>?_⟩
    have:=hear.out.2 ⟨i,h1,y,h2,by rw[h3,htnm.out]⟩
    cases this
   have O7':=O7.out
   rw[show namesTo Ts t=namesTo Ts t++(x.cons.take 0).map (·.name) by simp]at O7'
   have hcl:=cK.out _ hw
   replace hname:=kH hname;replace O7':=kH O7'
   clear O7 O5 hfv hear hnok hfv' hear'
   go_wp2_with fail
   go_loopw [4,41] (fun sv mv wq=>∃ (m:Nat) (ov:Value),ov=sv/\m<=cn/\mv=.int .i64 m/\Hid (OwnB (w.heap.size+1) wq ov (namesTo Ts t++(x.cons.take m).map (·.name)))/\Hid (∀g,ov.ownBlock=some g->g≠xb)/\Hid (∀i,i<m->∀y,x.cons[i]? = some y->¬ Earlier Ts t i y.name)/\Below w.heap.size w wq/\RowAt wq w.heap.size 0 [.slice (some ⟨b1,o1,none⟩) tn tc,.slice na nn nc]/\RowAt wq xb 0 [.string tnm,.int .i64 pr,.slice ca cn cc]/\xb<wq.heap.size) (fun _ mv _=>cn-(intOf mv).toNat)
   case atStart=>exact⟨0,_,rfl,by omega,rfl,O7',kH (fun g hg=>(hbo.out g hg).1),kH (fun i h=>by omega),hw,B4,X4,hsX4⟩
   case round=>
    clear O7' hbo hw B4 X4 b4_0 b4_1 hsB4 x4_0 x4_1 x4_2 hsX4 hz hz5 hcl
    obtain⟨m,ov,rfl,hm,rfl,O,hbo,hfm,hw,B,X,hxl⟩:=hrel
    have hz:=hw.size
    obtain⟨b_0,b_1⟩:=B.box2;have hsB:=bLt b_0;obtain⟨x_0,x_1,x_2⟩:=X.box3;have hsX:=bLt x_0
    by_cases hmt:m<cn
    ·obtain⟨b3,o3,y,r3,_,hca,P3,⟨u0,rfl,hcw,hga⟩,hr3⟩:=(cK.out _ hw).atT.get hcn.out hmt
     subst hca
     obtain⟨ga,gc,rfl⟩:=hga.form
     obtain⟨cnm,hcnm⟩ : ∃q,q=y.name:=⟨_,rfl⟩
     obtain⟨chas,hch⟩ : ∃q,q=y.has:=⟨_,rfl⟩
     obtain⟨gn,hgn⟩ : ∃q,q=y.arg.items.length:=⟨_,rfl⟩
     rw[<- hgn,<- hcnm,<- hch]at hr3
     have hsc:StrOk cnm:=by rw[hcnm];exact hcw
     have hmm:=hmem.out m cnm
     have hstep:namesTo Ts t++(x.cons.take (m+1)).map (·.name)=(namesTo Ts t++(x.cons.take m).map (·.name)) ++ [cnm]:=by rw[take_snoc' P3.out,List.map_append,List.append_assoc,hcnm];rfl
     have hfm2 : ¬ Earlier Ts t m cnm->∀i,i<m+1->∀y,x.cons[i]? = some y->¬ Earlier Ts t i y.name:=fun h i hi z hz2=>by
      by_cases him:i<m
      ·exact hfm.out i him z hz2
      ·obtain rfl:i=m:=by omega
       rw[P3.out]at hz2;injection hz2 with hz2;subst hz2;rw[<- hcnm];exact h
     have hbd:Earlier Ts t m cnm->¬ Q:=fun h=>hbadx.out (fun hc=>hc.2.1 m y P3.out (by rw[<- hcnm];exact h))
     have e_0:wr.cell? ⟨b3,o3+m*3,none⟩=some (.string cnm):=by simpa using hr3 0 _ rfl
     have e_1:wr.cell? ⟨b3,o3+m*3+1,none⟩=some (.bool chas):=hr3 1 _ rfl
     have e_2:wr.cell? ⟨b3,o3+m*3+2,none⟩=some (.slice ga gn gc):=hr3 2 _ rfl
     have hbb3:=World.block_lt_of_cell? _ _ e_0;dsimp only at hbb3
     have hln:(namesTo Ts t++(x.cons.take m).map (·.name)).length<=1000:=by rw[List.length_append,List.length_map,List.length_take];omega
     generalize namesTo Ts t++(x.cons.take m).map (·.name)=ns at *
     clear hr3 hga hcw P3
     replace hcnm:=kH hcnm;replace hch:=kH hch;replace hgn:=kH hgn;replace hsc:=kH hsc;replace hmm:=kH hmm;replace hstep:=kH hstep;replace hfm2:=kH hfm2;replace hbd:=kH hbd
     go_upto_region 13 with fail
     obtain⟨w8,hW8⟩ : ∃W,W=wr.alloc (.cells #[.string cnm,.bool chas,.slice ga gn gc] 105):=⟨_,rfl⟩
     rw[<- hW8]
     have hb:Below wr.heap.size wr w8:=by rw[hW8];go_grown
     have C8:RowAt w8 wr.heap.size 0 [.string cnm,.bool chas,.slice ga gn gc]:=by rw[hW8];exact RowAt.box wr #[_,_,_] _
     have hzb:wr.heap.size+1<=w8.heap.size:=by rw[hW8];simp
     have O8:=O.out.below hb
     have hob:=O.out.base
     obtain⟨cb,hcb⟩ : ∃q,q=wr.heap.size:=⟨_,rfl⟩
     rw[<- hcb]at C8 hzb ⊢
     have hoc:∀g,ov.ownBlock=some g->g≠cb/\w.heap.size+1<=g:=fun g hg=>by have:=hob g hg;omega
     replace hcb:=kH hcb;replace O8:=kH O8;replace hoc:=kH hoc
     clear hW8 e_0 e_1 e_2 hbb3 b_0 b_1 hsB x_0 x_1 x_2 hsX O hob
     have hw:=hw.trans (hb.mono hw.size);have B:=B.below hb;obtain⟨b_0,b_1⟩:=B.box2;have hsB:=bLt b_0;have X:=X.below hb;obtain⟨x_0,x_1,x_2⟩:=X.box3;have hsX:=bLt x_0;clear hb
     obtain⟨c8_0,c8_1,c8_2⟩:=C8.box3;have hsC8:=bLt c8_0
     obtain⟨va,vc,rfl⟩:=O8.out.form
     obtain⟨vn,hvn⟩ : ∃q,q=ns.length:=⟨_,rfl⟩
     rw[<- hvn]at O8 hbo hoc hln ⊢
     have cCn:=containsS_c ns cnm _ _ w8 (O8.out.sl flatStr)
     try rw[<- hvn]at cCn
     obtain⟨cq,hcq⟩ : ∃q,q=(ns.any fun y=>cnm.toList == y.toList):=⟨_,rfl⟩
     rw[<- hcq]at cCn
     have hcq2:cq=true ↔ cnm∈ns:=by
      rw[hcq,List.any_eq_true]
      constructor
      ·rintro ⟨y,h1,h2⟩;rw[beq_iff_eq,toList_eq]at h2;rw[h2];exact h1
      ·intro h;exact⟨cnm,h,by simp⟩
     replace hvn:=kH hvn;replace cCn:=kH cCn;replace hcq:=kH hcq;replace hcq2:=kH hcq2
     go_upto_if 48 with(go_at_call 62;(with_reducible refine(cCn.out).mono ?_);rintro e w9 ⟨rfl,hb⟩;have O9:=kH (O8.out.below hb);have C9:=C8.below hb;have hzb9:=hb.size;have hw:=hw.trans (hb.mono hw.size);have B:=B.below hb;obtain⟨b_0,b_1⟩:=B.box2;have hsB:=bLt b_0;have X:=X.below hb;obtain⟨x_0,x_1,x_2⟩:=X.box3;have hsX:=bLt x_0;clear hb)
     have hzw:=hw.size
     clear cCn c8_0 c8_1 c8_2 hsC8 C8 O8
     obtain⟨c9_0,c9_1,c9_2⟩:=C9.box3;have hsC9:=bLt c9_0
     cases cq
     rotate_left
     ·have hq:=hbd.out (hmm.out.1 (hcq2.out.1 rfl))
      replace hq:=kH hq
      go_wp2_with fail
      go_returns
      exact CTPost.no hq.out hw 12 (t:Int) (by decide)
     have hne : ¬ Earlier Ts t m cnm:=fun h=>by have:=hcq2.out.2 (hmm.out.2 h);cases this
     have hown:=O9.out.1
     rw[<- hvn.out]at hown
     have hnew:=kH (hfm2.out hne)
     replace hown:=kH hown
     clear hne hcq2 hmm hbd hfm2 hcq
     go_wp2_with ((at_builtin;refine wpList_append_lies _ rfl _ _ _ rfl (w.heap.size+1) 9 iJ _ 1 16 Tryz.underlying126 IJ.out IJ0.out IJ1.out IJ2.out rfl (by omega) (.slice va vn vc) (vn) (rowsOf strRow ns) rfl (own_below hown.out (by go_grown)) ⟨w9.heap.size,0,none⟩ 1 1 [.string cnm] rfl rfl (World.news_of_block (cs:=#[.string cnm]) (t:=9) (fr:=(0,0)) (heap_alloc_new' _ _ _ (by simp))) (by intro u hu;simp at hu;repeat' first|(subst hu;rfl)|rcases hu with hu|hu) (by omega) (by unfold maxLen;omega) (by omega) (by simp;omega) _ rfl ?_;intro g8 cap8 w10 hown8 hgrow8 hat8 hlt8))
     have hbA:Below w9.heap.size w9 (w9.alloc (.cells #[.string cnm] 9)):=by go_grown
     have hzA:(w9.alloc (.cells #[.string cnm] 9)).heap.size=w9.heap.size+1:=by simp
     have y1:=ownB_app (O9.out.below hbA) hvn.out hsc.out hown8
     have k8:=kept_of hgrow8 (w:=w9) hbA
     have y2:=below_grown2 (wr:=w9) (base:=w.heap.size) hgrow8 hbA hw hzw (own_lo hown.out (Nat.le_succ _))
     have hs8:=hgrow8.size
     have hox8:∀g,(Value.slice (some ⟨g8,0,none⟩) (vn+1) cap8).ownBlock=some g->g≠xb:=fun g hg=>by
      obtain rfl:g8=g:=by simpa [Value.ownBlock] using hg
      rcases hat8 with h|h
      ·exact hbo.out g8 h
      ·omega
     have BB:=B.kept k8 (fun e=>by have:=(hoc.out _ e.symm).2;omega)
     have XX:=X.kept k8 (fun e=>hbo.out _ e.symm rfl)
     go_roundw
     case rel=>exact⟨m+1,_,rfl,by omega,by go_num,kH (by rw[hstep.out];exact y1),kH hox8,hnew,y2,BB,XX,by omega⟩
     case measure=>simp[intOf];omega
    ·obtain rfl:m=cn:=by omega
     have hE:∀ (c:Nat) y,x.cons[c]? = some y->¬ Earlier Ts t c y.name:=fun c y hy=>hfm.out c (by have:=(List.getElem?_eq_some_iff.1 hy).1;have:=hcn.out;omega) y hy
     have On:=O.out
     rw[List.take_of_length_le (by have:=hcn.out;omega),<- hns.out]at On
     replace On:=kH On;replace hE:=kH hE
     clear O hfm
     have hnx2:=fun(h:∀y∈x.cons,∀it∈y.arg.items,it.name≠ByteArray.empty->knownP Ts it.name it.arity=true)=>hnx.out ⟨⟨by have:=hname.out.1;omega,hname.out.2⟩,hE.out,h⟩
     replace hnx2:=kH hnx2
     go_wp2_with fail
     go_loopw [59] (fun mv wq=>∃ (k:Nat),k<=m/\mv=.int .i64 k/\Hid (∀y∈x.cons.take k,∀it∈y.arg.items,it.name≠ByteArray.empty->knownI Ts it.name it.arity=true)/\Hid (OwnB (w.heap.size+1) wq ov (namesTo Ts (t+1)))/\Below w.heap.size w wq/\RowAt wq w.heap.size 0 [.slice (some ⟨b1,o1,none⟩) tn tc,.slice na nn nc]/\RowAt wq xb 0 [.string tnm,.int .i64 pr,.slice ca m cc]) (fun mv _=>m-(intOf mv).toNat)
     case atStart=>exact⟨0,by omega,rfl,kH (fun y hy=>by simp at hy),On,hw,B,X⟩
     case round=>
      clear On hw B X b_0 b_1 hsB x_0 x_1 x_2 hsX hz
      obtain⟨k,hk,rfl,hkn,On,hw,B,X⟩:=hrel
      have hz:=hw.size
      obtain⟨b_0,b_1⟩:=B.box2;have hsB:=bLt b_0;obtain⟨x_0,x_1,x_2⟩:=X.box3;have hsX:=bLt x_0
      by_cases hkm:k<m
      ·obtain⟨b3,o3,y,r3,_,hca,P3,⟨u0,rfl,hcw,hga⟩,hr3⟩:=(cK.out _ hw).atT.get hcn.out hkm
       subst hca
       obtain⟨ga,gc,rfl⟩:=hga.form
       obtain⟨cnm,hcnm⟩ : ∃q,q=y.name:=⟨_,rfl⟩
       obtain⟨chas,hch⟩ : ∃q,q=y.has:=⟨_,rfl⟩
       obtain⟨gn,hgn⟩ : ∃q,q=y.arg.items.length:=⟨_,rfl⟩
       rw[<- hgn,<- hcnm,<- hch]at hr3
       have hym:=List.mem_of_getElem? P3.out
       have hemp:=fun it:GTyItem=>name_emp it
       have hbd:(y.arg.items.any fun it=>!it.name.toList.isEmpty && !knownI Ts it.name it.arity)=true->¬ Q:=fun h hq=>by
        obtain⟨it,h1,h2⟩:=List.any_eq_true.1 h
        rw[Bool.and_eq_true,Bool.not_eq_true',Bool.not_eq_true']at h2
        have h3:=hknx.out hq y hym it h1 ((hemp it).1 h2.1)
        rw[h3]at h2;cases h2.2
       have hgd:(y.arg.items.any fun it=>!it.name.toList.isEmpty && !knownI Ts it.name it.arity)=false->∀z∈x.cons.take (k+1),∀it∈z.arg.items,it.name≠ByteArray.empty->knownI Ts it.name it.arity=true:=fun h z hz2 it h1 h2=>by
        rw[take_snoc' P3.out]at hz2
        rcases List.mem_append.1 hz2 with h3|h3
        ·exact hkn.out z h3 it h1 h2
        ·simp only[List.mem_singleton]at h3;subst h3
         have h4:=List.any_eq_false.1 h it h1
         rw[(hemp it).2 h2]at h4
         simpa using h4
       have cI:=fun W (hW:Below wr.heap.size wr W) (hB:RowAt W w.heap.size 0 [.slice (some ⟨b1,o1,none⟩) tn tc,.slice na nn nc])=>containsFuncTyItem_c y.arg.items (fun it=>!it.name.toList.isEmpty && !knownI Ts it.name it.arity) 64 #[.pointer (some ⟨w.heap.size,0,none⟩)] 0 (.slice ga y.arg.items.length gc) W (hga.below GTyItem.good hW) (fun i it r W2 hit hW2 hr=>checkTypes2_c Ts (by have:=hTl.out;omega) it r 0 W2 hr w.heap.size _ _ (hB.below hW2) (hM2.out W2 ((hw.trans (hW.mono hz)).trans (hW2.mono (by have:=hW.size;omega))))) (fun _ _=>by kernel_rfl)
       rw[<- hgn]at cI
       generalize (y.arg.items.any fun it=>!it.name.toList.isEmpty && !knownI Ts it.name it.arity)=iq at *
       have e_0:wr.cell? ⟨b3,o3+k*3,none⟩=some (.string cnm):=by simpa using hr3 0 _ rfl
       have e_1:wr.cell? ⟨b3,o3+k*3+1,none⟩=some (.bool chas):=hr3 1 _ rfl
       have e_2:wr.cell? ⟨b3,o3+k*3+2,none⟩=some (.slice ga gn gc):=hr3 2 _ rfl
       have hbb3:=World.block_lt_of_cell? _ _ e_0;dsimp only at hbb3
       clear hr3 hga hcw P3 hemp
       replace hcnm:=kH hcnm;replace hch:=kH hch;replace hgn:=kH hgn;replace hym:=kH hym;replace hbd:=kH hbd;replace hgd:=kH hgd;replace cI:=kH cI
       go_upto_region 20 with fail
       obtain⟨w8,hW8⟩ : ∃W,W=wr.alloc (.cells #[.string cnm,.bool chas,.slice ga gn gc] 105):=⟨_,rfl⟩
       rw[<- hW8]
       have hb:Below wr.heap.size wr w8:=by rw[hW8];go_grown
       have C8:RowAt w8 wr.heap.size 0 [.string cnm,.bool chas,.slice ga gn gc]:=by rw[hW8];exact RowAt.box wr #[_,_,_] _
       have On8:=On.out.below hb
       have cI8:=cI.out w8 hb (B.below hb)
       obtain⟨cb,hcb⟩ : ∃q,q=wr.heap.size:=⟨_,rfl⟩
       rw[<- hcb]at C8 ⊢
       replace hcb:=kH hcb;replace On8:=kH On8;replace cI8:=kH cI8
       clear hW8 e_0 e_1 e_2 hbb3 b_0 b_1 hsB x_0 x_1 x_2 hsX On cI
       have hw:=hw.trans (hb.mono hw.size);have B:=B.below hb;obtain⟨b_0,b_1⟩:=B.box2;have hsB:=bLt b_0;have X:=X.below hb;obtain⟨x_0,x_1,x_2⟩:=X.box3;have hsX:=bLt x_0;clear hb
       obtain⟨c8_0,c8_1,c8_2⟩:=C8.box3;have hsC8:=bLt c8_0
       go_upto_if 67 with(go_at_call 63;(with_reducible refine(cI8.out).mono ?_);rintro e w9 ⟨rfl,hb⟩;have On9:=kH (On8.out.below hb);have hw:=hw.trans (hb.mono hw.size);have B:=B.below hb;obtain⟨b_0,b_1⟩:=B.box2;have hsB:=bLt b_0;have X:=X.below hb;obtain⟨x_0,x_1,x_2⟩:=X.box3;have hsX:=bLt x_0;clear hb)
       clear cI8 c8_0 c8_1 c8_2 hsC8 C8 On8
       cases iq
       rotate_left
       ·have hq:=hbd.out rfl
        replace hq:=kH hq
        go_wp2_with fail
        go_returns
        exact CTPost.no hq.out hw 13 (t:Int) (by decide)
       have hg1:=kH (hgd.out rfl)
       clear hbd hgd
       go_wp2_with fail
       go_roundw
       case rel=>exact⟨k+1,by omega,by go_num,hg1,On9,hw,B,X⟩
       case measure=>simp[intOf];omega
      ·obtain rfl:k=m:=by omega
       have hkf:=hkn.out
       rw[List.take_of_length_le (by have:=hcn.out;omega)]at hkf
       have hfin:=hnx2.out (fun y h1 it h2 h3=>knownP_of (hkf y h1 it h2 h3))
       replace hfin:=kH hfin
       clear hkf hkn hnx2
       go_wp2_with fail
       go_roundw
       case rel=>exact⟨t+1,ov,rfl,by omega,by go_num,On,hfin,hw,B⟩
       case measure=>simp[intOf];omega
  ·obtain rfl:t=tn:=by omega
   have hq:=hall2.out hf.out
   replace hq:=kH hq
   go_wp2_with fail
   go_returns
   exact CTPost.yes hq.out hw 0
end Go.Proofs.YtkikkfjmggobpaaGreat
namespace Go.Proofs.YtkikkfjmggobpaaGreat
open Go.RowKit
set_option linter.unusedVariables false
set_option linter.unusedSimpArgs false
def is0:IS:=⟨[],0,0,0⟩
theorem is0_good:is0.Good:=⟨fun _=>⟨GoodS.nil _,fun p h=>(by cases h)⟩,⟨by decide,by decide⟩,⟨by decide,by decide⟩⟩
noncomputable def dtyM (p:GProgram) (d:GData):TyT × IS:=dataY p.types d.nodes.length (treeOf d.nodes d.nodes.length 0) is0
noncomputable def dtyP (p:GProgram) (d:GData):List GTyItem × Int:=by
 classical exact if chkOk p/\dataOk d=true then (if (dtyM p d).2.cd≠0 then ([],(dtyM p d).2.cd) else if 200<szY (subY (dtyM p d).2.sub (dtyM p d).1) then ([],26) else (canL (flatY (subY (dtyM p d).2.sub (dtyM p d).1)),0)) else ([],1)
theorem dtyP_no {p:GProgram} {d:GData} (h : ¬ (chkOk p/\dataOk d=true)):dtyP p d=([],1):=by unfold dtyP;rw[if_neg h]
theorem dtyP_cd {p:GProgram} {d:GData} (h:chkOk p/\dataOk d=true) (h2:(dtyM p d).2.cd≠0):dtyP p d=([],(dtyM p d).2.cd):=by unfold dtyP;rw[if_pos h,if_pos h2]
theorem dtyP_big {p:GProgram} {d:GData} (h:chkOk p/\dataOk d=true) (h2:(dtyM p d).2.cd=0) (h3:200<szY (subY (dtyM p d).2.sub (dtyM p d).1)):dtyP p d=([],26):=by unfold dtyP;rw[if_pos h,if_neg (fun h=>h h2),if_pos h3]
theorem dtyP_ok {p:GProgram} {d:GData} (h:chkOk p/\dataOk d=true) (h2:(dtyM p d).2.cd=0) (h3 : ¬ 200<szY (subY (dtyM p d).2.sub (dtyM p d).1)):dtyP p d=(canL (flatY (subY (dtyM p d).2.sub (dtyM p d).1)),0):=by unfold dtyP;rw[if_pos h,if_neg (fun h=>h h2),if_neg h3]
theorem dtyP_len (p:GProgram) (d:GData):(dtyP p d).1.length<=200:=by
 by_cases h:chkOk p/\dataOk d=true
 ·by_cases h2:(dtyM p d).2.cd=0
  ·by_cases h3:200<szY (subY (dtyM p d).2.sub (dtyM p d).1)
   ·rw[dtyP_big h h2 h3];simp
   ·rw[dtyP_ok h h2 h3];dsimp only;rw[canL_len,flatY_len];omega
  ·rw[dtyP_cd h h2];simp
 ·rw[dtyP_no h];simp
def DtyPost (q:List GTyItem × Int) (w:World) (e:Ending) (w' : World):Prop:=∃v,e=.returned (.tuple #[.agg #[v],.int .i64 q.2])/\OwnT w.heap.size w' v q.1/\Below w.heap.size w w'
theorem ret_dty {fn:Func} {tmps:Array Value} {a i:Nat} {g:Nat} {v0 u0:Value} {w:World} (hf:fn.results = #[.cell a 33,.tmp i]) (hp:tmps.getD a undef=.pointer (some ⟨g,0,none⟩)) (hi:tmps.getD i undef=u0) (h0:RowAt w g 0 [v0]) :
  (results fn tmps).run Tryz.prog w=.ok (.tuple #[.agg #[v0],u0]) w:=by
 have hp' : tmps[a]?.getD undef=.pointer (some ⟨g,0,none⟩):=by simpa using hp
 have hi' : tmps[i]?.getD undef=u0:=by simpa using hi
 have e0:=h0.box1
 simp[results,hf,go_sem,hp',hi',e0]
theorem tys_ok {p:GProgram} (h:progOk p=true) {v:Value} {w:World} {lo:Nat} (hr:Sl GType.R 3 lo w v p.types):TysOk p.types:=by
 unfold progOk shapeP at h
 rw[Bool.and_eq_true,Bool.and_eq_true,Bool.and_eq_true,Bool.and_eq_true,Bool.and_eq_true,List.all_eq_true,List.all_eq_true]at h
 obtain⟨⟨⟨-,-⟩,-,-,h2⟩,-⟩:=h
 intro t ht
 obtain⟨i,hi⟩:=List.getElem?_of_mem ht
 obtain⟨a,c,-,_,_,h0⟩:=hr
 obtain⟨b,o,x,r,_,_,P1,⟨u0,-,hwf,hcs⟩,-⟩:=h0.get (kH rfl) (List.getElem?_eq_some_iff.1 hi).1
 obtain rfl:t=x:=Option.some.inj (hi.symm.trans P1.out)
 refine⟨h2 t ht,hwf,fun y hy=>?_⟩
 obtain⟨j,hj⟩:=List.getElem?_of_mem hy
 obtain⟨a',c',-,_,_,h3⟩:=hcs
 obtain⟨b',o',y',r',_,_,P2,⟨u1,-,hw2,-⟩,-⟩:=h3.get (kH rfl) (List.getElem?_eq_some_iff.1 hj).1
 obtain rfl:y=y':=Option.some.inj (hj.symm.trans P2.out)
 exact hw2
theorem data_wfP {r:List Value} {d:GData} {lo:Nat} {w:World} (hr:GData.R lo w r d) (j:Nat) (x:GDNode) (hj:d.nodes[j]? = some x):x.wf:=by
 obtain⟨u,-,-,hs⟩:=hr
 obtain⟨a,c,-,_,_,h0⟩:=hs
 obtain⟨b,o,y,r,_,_,P1,⟨u0,-,hwf,-⟩,-⟩:=h0.get (kH rfl) (List.getElem?_eq_some_iff.1 hj).1
 obtain rfl:x=y:=Option.some.inj (hj.symm.trans P1.out)
 exact hwf
theorem dataOk_nodesP {d:GData} (h:dataOk d=true):∀ (j:Nat) x,d.nodes[j]? = some x->nodeOk d.nodes x=true:=by
 unfold dataOk at h
 simp only[Bool.and_eq_true,decide_eq_true_eq,Bool.not_eq_true']at h
 obtain⟨h1,h2,h3⟩:=h
 intro j x hx
 rw[List.any_eq_false]at h3
 have:=h3 x (List.mem_of_getElem? hx)
 simpa using this
theorem data_doksP {r:List Value} {d:GData} {lo:Nat} {w:World} (hr:GData.R lo w r d) (h:dataOk d=true):DOkS d.nodes.length (treeOf d.nodes d.nodes.length 0):=by
 obtain⟨hU,h0,_⟩:=dataOk_up h
 exact treeOf_doks d.nodes hU (dataOk_nodesP h) (data_wfP hr) d.nodes.length 0 h0 (by omega)
end Go.Proofs.YtkikkfjmggobpaaGreat
