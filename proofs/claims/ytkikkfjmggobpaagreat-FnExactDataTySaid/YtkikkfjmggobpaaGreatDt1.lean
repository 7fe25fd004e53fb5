/- Parts of the proof, merged: Base, Types. -/
import Derived.Handy
import Derived.Lib.Hide
import Derived.BigQuiet
import Derived.Deep.DeepCutAuto
import Derived.WalkSpells
import Derived.WalkLawsBesides
namespace Go.Proofs.YtkikkfjmggobpaaGreat
open Go.RowKit
set_option linter.unusedVariables false
theorem kH {p:Prop} (h:p):Hid p:=Lib.hid h
theorem bLt {w:World} {b o:Nat} {x:Value} (h:w.cell? ⟨b,o,none⟩=some x):b<w.heap.size:=World.block_lt_of_cell? w ⟨b,o,none⟩ h
def Ext (w:World):Type:={ w' : World // Below w.heap.size w w' }
instance (w:World):Inhabited (Ext w):=⟨⟨w,Below.refl _ _⟩⟩
theorem Ext.cell {w:World} (x:Ext w) {b o:Nat} (h:b<w.heap.size):x.val.cell? ⟨b,o,none⟩=w.cell? ⟨b,o,none⟩:=
 x.property.cell (p:=⟨b,o,none⟩) h
theorem Ext.size {w:World} (x:Ext w):w.heap.size<=x.val.heap.size:=x.property.size
theorem Calls.ext {P:Program} {f:FuncId} {args:Array Value} {w:World} {x:Ext w} {v:Value}
  (h:Calls P f args x.val fun e w'=>e=.returned v/\Below x.val.heap.size x.val w') :
  Calls P f args x.val fun e w''=>e=.returned v/\∃y:Ext w,w'' = y.val:=
 h.mono fun _ w' ⟨he,hb⟩=>⟨he,⟨⟨w',x.property.trans (hb.mono x.property.size)⟩,rfl⟩⟩
theorem Calls.ext_same {P:Program} {f:FuncId} {args:Array Value} {w:World} {x:Ext w} {v:Value}
  (h:Calls P f args x.val fun e w'=>e=.returned v/\x.val=w') :
  Calls P f args x.val fun e w''=>e=.returned v/\∃y:Ext w,w'' = y.val:=
 h.mono fun _ w' ⟨he,hb⟩=>⟨he,x,hb.symm⟩
theorem wp_region_ext_lit {P:Program} {id:Nat} {Q:Exit->Act->World->Prop} {a:Act} {w:World} {l:List Oper} (hm:P.follows .mixedOrders=true) (hB:Region.lexB .any l.toArray=true)
  (h:wpQuiet P l.toArray (fun w'=>∃x:Ext w,w' = x.val) (fun a'=>∀w',(∃x:Ext w,w' = x.val)->Q .normal a' w') l a):(Code.region id l.toArray true).wp P Q a w:=
 wp_region_quiet (C:=fun w'=>∃x:Ext w,w' = x.val) hm hB ⟨⟨_,(Below.refl _ w).drew⟩,rfl⟩ (by simpa using h)
theorem cell_below {w w' : World} (hb:Below w.heap.size w w') {b o:Nat} {v:Value} (h:w.cell? ⟨b,o,none⟩=some v):w'.cell? ⟨b,o,none⟩=some v:=by
 rw[hb.cell (p:=⟨b,o,none⟩) (World.block_lt_of_cell? w _ h),h]
theorem bcell {W w1:World} (hb:Below W.heap.size W w1):(∀b o,b<W.heap.size->w1.cell? ⟨b,o,none⟩=W.cell? ⟨b,o,none⟩)/\(∀b o,b<W.heap.size->w1.frozen? ⟨b,o,none⟩=W.frozen? ⟨b,o,none⟩):=
 ⟨fun b o h=>hb.cell (p:=⟨b,o,none⟩) h,fun b o h=>hb.frozen (p:=⟨b,o,none⟩) h⟩
/-! ### What lies in memory from block lo on -/
def Agree (lo:Nat) (w w' : World):Prop:=∀k,lo<=k->k<w.heap.size->w'.heap[k]? = w.heap[k]?
theorem Agree.refl (lo:Nat) (w:World):Agree lo w w:=fun _ _ _=>rfl
theorem below_agree {w w' : World} (h:Below w.heap.size w w') (lo:Nat):Agree lo w w':=fun k _ hk=>h.block k hk
theorem Agree.trans {lo:Nat} {a b c:World} (h:Agree lo a b) (hs:a.heap.size<=b.heap.size) (k:Agree lo b c):Agree lo a c:=
 fun i h1 h2=>(k i h1 (by omega)).trans (h i h1 h2)
theorem Agree.setCell {lo:Nat} {a b:World} (h:Agree lo a b) {p:Addr} (hp:p.block<lo) (u:Value):Agree lo a (b.setCell p u):=
 fun k h1 h2=>(Below.heap_setCell _ _ _ _ (by omega)).trans (h k h1 h2)
theorem Agree.mono {lo lo' : Nat} {a b:World} (h:Agree lo a b) (hl:lo<=lo'):Agree lo' a b:=fun k h1 h2=>h k (by omega) h2
theorem cell_agree {lo:Nat} {w w' : World} (hb:Agree lo w w') {b o:Nat} {v:Value} (hlo:lo<=b) (h:w.cell? ⟨b,o,none⟩=some v):w'.cell? ⟨b,o,none⟩=some v:=by
 rw[World.cell?_of_block (w:=w) (a:=⟨b,o,none⟩) (hb b hlo (World.block_lt_of_cell? w _ h)),h]
theorem cell_alloc_new' (w:World) (cs:Array Value) (t:TypeId) (j:Nat):(w.alloc (.cells cs t)).cell? ⟨w.heap.size,j,none⟩=cs[j]?:=by
 rw[cell_of_row (w.alloc (.cells cs t)) w.heap.size j cs t (0,0) (heap_alloc_new w _)]
def RowAt (w:World) (b off:Nat) (r:List Value):Prop:=∀j c,r[j]? = some c->w.cell? ⟨b,off+j,none⟩=some c
theorem RowAt.agree {lo:Nat} {w w' : World} {b off:Nat} {r:List Value} (h:RowAt w b off r) (hlo:lo<=b) (hb:Agree lo w w'):RowAt w' b off r:=
 fun j c hc=>cell_agree hb hlo (h j c hc)
theorem RowAt.below {w w' : World} {b off:Nat} {r:List Value} (h:RowAt w b off r) (hb:Below w.heap.size w w'):RowAt w' b off r:=
 fun j c hc=>cell_below hb (h j c hc)
theorem RowAt.set_other {w:World} {b off g o:Nat} {r:List Value} (h:RowAt w b off r) (hne:b≠g) (u:Value):RowAt (w.setCell ⟨g,o,none⟩ u) b off r:=fun j c hc=>by
 rw[World.cell?_of_block (w:=w) (a:=⟨b,off+j,none⟩) (Below.heap_setCell w ⟨g,o,none⟩ u b hne)]
 exact h j c hc
theorem RowAt.ext {w:World} {b off:Nat} {r:List Value} (h:RowAt w b off r) (y:Ext w):RowAt y.val b off r:=h.below y.property
theorem RowAt.box (w:World) (cs:Array Value) (t:TypeId):RowAt (w.alloc (.cells cs t)) w.heap.size 0 cs.toList:=fun j c hc=>by
 rw[Nat.zero_add,Go.Proofs.YtkikkfjmggobpaaGreat.cell_alloc_new']
 simpa using hc
theorem RowAt.cells1 {w:World} {b o:Nat} {a0:Value} (h:RowAt w b o [a0]):w.cell? ⟨b,o,none⟩=some a0:=
 h 0 _ rfl
theorem RowAt.box1 {w:World} {b:Nat} {a0:Value} (h:RowAt w b 0 [a0]):w.cell? ⟨b,0,none⟩=some a0:=
 (Nat.zero_add 0) ▸ h 0 _ rfl
theorem RowAt.box2 {w:World} {b:Nat} {a0 a1:Value} (h:RowAt w b 0 [a0,a1]):w.cell? ⟨b,0,none⟩=some a0/\w.cell? ⟨b,1,none⟩=some a1:=
 ⟨(Nat.zero_add 0) ▸ h 0 _ rfl,(Nat.zero_add 1) ▸ h 1 _ rfl⟩
theorem RowAt.cells3 {w:World} {b o:Nat} {a0 a1 a2:Value} (h:RowAt w b o [a0,a1,a2]):w.cell? ⟨b,o,none⟩=some a0/\w.cell? ⟨b,o+1,none⟩=some a1/\w.cell? ⟨b,o+2,none⟩=some a2:=
 ⟨h 0 _ rfl,h 1 _ rfl,h 2 _ rfl⟩
theorem RowAt.box3 {w:World} {b:Nat} {a0 a1 a2:Value} (h:RowAt w b 0 [a0,a1,a2]):w.cell? ⟨b,0,none⟩=some a0/\w.cell? ⟨b,1,none⟩=some a1/\w.cell? ⟨b,2,none⟩=some a2:=
 ⟨(Nat.zero_add 0) ▸ h 0 _ rfl,(Nat.zero_add 1) ▸ h 1 _ rfl,(Nat.zero_add 2) ▸ h 2 _ rfl⟩
theorem RowAt.cells4 {w:World} {b o:Nat} {a0 a1 a2 a3:Value} (h:RowAt w b o [a0,a1,a2,a3]):w.cell? ⟨b,o,none⟩=some a0/\w.cell? ⟨b,o+1,none⟩=some a1/\w.cell? ⟨b,o+2,none⟩=some a2/\w.cell? ⟨b,o+3,none⟩=some a3:=
 ⟨h 0 _ rfl,h 1 _ rfl,h 2 _ rfl,h 3 _ rfl⟩
theorem RowAt.box4 {w:World} {b:Nat} {a0 a1 a2 a3:Value} (h:RowAt w b 0 [a0,a1,a2,a3]):w.cell? ⟨b,0,none⟩=some a0/\w.cell? ⟨b,1,none⟩=some a1/\w.cell? ⟨b,2,none⟩=some a2/\w.cell? ⟨b,3,none⟩=some a3:=
 ⟨(Nat.zero_add 0) ▸ h 0 _ rfl,(Nat.zero_add 1) ▸ h 1 _ rfl,(Nat.zero_add 2) ▸ h 2 _ rfl,(Nat.zero_add 3) ▸ h 3 _ rfl⟩
theorem RowAt.cells6 {w:World} {b o:Nat} {a0 a1 a2 a3 a4 a5:Value} (h:RowAt w b o [a0,a1,a2,a3,a4,a5]):w.cell? ⟨b,o,none⟩=some a0/\w.cell? ⟨b,o+1,none⟩=some a1/\w.cell? ⟨b,o+2,none⟩=some a2/\w.cell? ⟨b,o+3,none⟩=some a3/\w.cell? ⟨b,o+4,none⟩=some a4/\w.cell? ⟨b,o+5,none⟩=some a5:=
 ⟨h 0 _ rfl,h 1 _ rfl,h 2 _ rfl,h 3 _ rfl,h 4 _ rfl,h 5 _ rfl⟩
theorem RowAt.box6 {w:World} {b:Nat} {a0 a1 a2 a3 a4 a5:Value} (h:RowAt w b 0 [a0,a1,a2,a3,a4,a5]):w.cell? ⟨b,0,none⟩=some a0/\w.cell? ⟨b,1,none⟩=some a1/\w.cell? ⟨b,2,none⟩=some a2/\w.cell? ⟨b,3,none⟩=some a3/\w.cell? ⟨b,4,none⟩=some a4/\w.cell? ⟨b,5,none⟩=some a5:=
 ⟨(Nat.zero_add 0) ▸ h 0 _ rfl,(Nat.zero_add 1) ▸ h 1 _ rfl,(Nat.zero_add 2) ▸ h 2 _ rfl,(Nat.zero_add 3) ▸ h 3 _ rfl,(Nat.zero_add 4) ▸ h 4 _ rfl,(Nat.zero_add 5) ▸ h 5 _ rfl⟩
abbrev Reading (α:Type):=Nat->World->List Value->α->Prop
structure Reading.Good {α:Type} (R:Reading α):Prop where
 agree:∀ {lo w w' r x},R lo w r x->Agree lo w w'->R lo w' r x
 mono:∀ {lo lo' w r x},R lo w r x->lo'<=lo->R lo' w r x
theorem Reading.Good.below {α:Type} {R:Reading α} (g:R.Good) {lo:Nat} {w w' : World} {r:List Value} {x:α} (h:R lo w r x) (hb:Below w.heap.size w w'):R lo w' r x:=
 g.agree h (below_agree hb lo)
def SlAt {α:Type} (R:Reading α) (sz lo:Nat) (w:World) (a:Option Addr) (xs:List α):Prop:=
 0<xs.length->∃b off,lo<=b/\a=some ⟨b,off,none⟩/\∀ (i:Nat) x,xs[i]? = some x->∃r,R lo w r x/\RowAt w b (off+i*sz) r
def Sl {α:Type} (R:Reading α) (sz lo:Nat) (w:World) (v:Value) (xs:List α):Prop:=
 ∃a cap,v=.slice a xs.length cap/\xs.length<=cap/\cap<=9223372036854775807/\SlAt R sz lo w a xs
section
variable {α:Type} {R:Reading α} {sz lo:Nat} {w w' : World} {v:Value} {a:Option Addr} {xs:List α}
theorem SlAt.agree (g:R.Good) (h:SlAt R sz lo w a xs) (hb:Agree lo w w'):SlAt R sz lo w' a xs:=fun hne=>
 let ⟨b,off,hl,ha,h4⟩:=h hne
 ⟨b,off,hl,ha,fun i x hx=>let ⟨r,h5,h6⟩:=h4 i x hx;⟨r,g.agree h5 hb,h6.agree hl hb⟩⟩
theorem SlAt.below (g:R.Good) (h:SlAt R sz lo w a xs) (hb:Below w.heap.size w w'):SlAt R sz lo w' a xs:=h.agree g (below_agree hb lo)
theorem SlAt.mono (g:R.Good) {lo' : Nat} (h:SlAt R sz lo w a xs) (hl' : lo'<=lo):SlAt R sz lo' w a xs:=fun hne=>
 let ⟨b,off,hl,ha,h4⟩:=h hne
 ⟨b,off,by omega,ha,fun i x hx=>let ⟨r,h5,h6⟩:=h4 i x hx;⟨r,g.mono h5 hl',h6⟩⟩
theorem Sl.agree (g:R.Good) (h:Sl R sz lo w v xs) (hb:Agree lo w w'):Sl R sz lo w' v xs:=
 let ⟨a,cap,hv,h1,h2,h3⟩:=h
 ⟨a,cap,hv,h1,h2,h3.agree g hb⟩
theorem Sl.below (g:R.Good) (h:Sl R sz lo w v xs) (hb:Below w.heap.size w w'):Sl R sz lo w' v xs:=h.agree g (below_agree hb lo)
theorem Sl.mono (g:R.Good) {lo' : Nat} (h:Sl R sz lo w v xs) (hl:lo'<=lo):Sl R sz lo' w v xs:=
 let ⟨a,cap,hv,h1,h2,h3⟩:=h
 ⟨a,cap,hv,h1,h2,h3.mono g hl⟩
theorem Sl.nil:Sl R sz lo w (.slice none 0 0) []:=⟨none,0,rfl,by simp,by simp,fun h=>absurd h (by simp)⟩
theorem SlAt.take (h:SlAt R sz lo w a xs) (k:Nat):SlAt R sz lo w a (xs.take k):=fun hne=>by
 have h0:0<xs.length:=by simp[List.length_take]at hne;omega
 obtain⟨b,off,hl,ha,h4⟩:=h h0
 refine⟨b,off,hl,ha,fun i x hx=>h4 i x ?_⟩
 rw[List.getElem?_take]at hx
 split at hx
 ·exact hx
 ·cases hx
theorem SlAt.sl (h:SlAt R sz lo w a xs) {n cap:Nat} (hn:n=xs.length) (hc:n<=cap) (hm:cap<=9223372036854775807):Sl R sz lo w (.slice a n cap) xs:=⟨a,cap,by rw[hn],by omega,hm,h⟩
theorem Sl.form (h:Sl R sz lo w v xs):∃a cap,v=.slice a xs.length cap:=let ⟨a,cap,hv,_⟩:=h;⟨a,cap,hv⟩
theorem SlAt.get (h:SlAt R sz lo w a xs) {k n:Nat} (hn:Hid (n=xs.length)) (hk:k<n) :
  ∃b off x r,lo<=b/\a=some ⟨b,off,none⟩/\Hid (xs[k]? = some x)/\R lo w r x/\RowAt w b (off+k*sz) r:=by
 have hn' : n=xs.length:=hn
 subst hn'
 obtain⟨b,off,hl,ha,h4⟩:=h (by omega)
 obtain⟨r,h5,h6⟩:=h4 k xs[k] (by simp)
 exact⟨b,off,xs[k],r,hl,ha,List.getElem?_eq_getElem hk,h5,h6⟩
end
def I64 (n:Int):Prop:=-9223372036854775808<=n/\n<=9223372036854775807
def StrOk (s:ByteArray):Prop:=s.size<=9223372036854775807
def IntR:Reading Int:=fun _ _ r n=>r=[.int .i64 n]/\I64 n
def StrR:Reading ByteArray:=fun _ _ r s=>r=[.string s]/\StrOk s
def BoolR:Reading Bool:=fun _ _ r s=>r=[.bool s]
def ByteR:Reading UInt8:=fun _ _ r s=>r=[.int .u8 s.toNat]
theorem IntR.good:IntR.Good:=⟨fun h _=>h,fun h _=>h⟩
theorem StrR.good:StrR.Good:=⟨fun h _=>h,fun h _=>h⟩
theorem BoolR.good:BoolR.Good:=⟨fun h _=>h,fun h _=>h⟩
theorem ByteR.good:ByteR.Good:=⟨fun h _=>h,fun h _=>h⟩
def bulkS {α:Type} (f:α->Int) (l:List α):Int:=l.length+(l.map f).sum
theorem toList_eq (s t:ByteArray):s.toList=t.toList ↔ s=t:=by
 constructor
 ·intro h
  apply ByteArray.ext
  apply Array.ext'
  rw[ByteArray.toList_eq,ByteArray.toList_eq]at h
  exact h
 ·rintro rfl;rfl
theorem neq_of_int_false {p q:Int} (h:(p != q)=false):p=q:=by simpa using h
theorem neq_of_int_true {p q:Int} (h:(p != q)=true):p≠q:=by simpa using h
theorem neq_of_dec_false {p:Prop} [Decidable p] (h:decide p=false) : ¬ p:=of_decide_eq_false h
theorem neq_of_dec_true {p:Prop} [Decidable p] (h:decide p=true):p:=of_decide_eq_true h
theorem take_snoc' {α:Type} {l:List α} {k:Nat} {x:α} (h:l[k]? = some x):l.take (k+1)=l.take k ++ [x]:=by
 rw[List.take_add_one,h];rfl
theorem take_full {α:Type} {l:List α} {k:Nat} (h:Hid (k=l.length)):l.take k=l:=by
 rw[List.take_of_length_le (by rw[h.out];exact Nat.le_refl _)]
/-! ### How much is held -/
theorem sum_nonneg {α:Type} {f:α->Int} (h:∀x,0<=f x) (l:List α):0<=(l.map f).sum:=by
 induction l with
 |nil=>simp
 |cons a l ih=>simp only[List.map_cons,List.sum_cons];have:=h a;omega
theorem bulkS_nonneg {α:Type} {f:α->Int} (h:∀x,0<=f x) (l:List α):0<=bulkS f l:=by
 have:=sum_nonneg h l
 unfold bulkS;omega
theorem sum_take {α:Type} {f:α->Int} {l:List α} {k:Nat} {x:α} (h:l[k]? = some x):((l.take (k+1)).map f).sum=((l.take k).map f).sum+f x:=by
 rw[take_snoc' h];simp
theorem sum_take_le {α:Type} {f:α->Int} (hf:∀x,0<=f x) (l:List α) (k:Nat):((l.take k).map f).sum<=(l.map f).sum:=by
 conv=>rhs;rw[<- List.take_append_drop k l]
 rw[List.map_append,List.sum_append]
 have:=sum_nonneg hf (l.drop k)
 omega
theorem le_bulkS {α:Type} {f:α->Int} (hf:∀x,0<=f x) {l:List α} {k:Nat} {x:α} (h:l[k]? = some x):f x<=bulkS f l:=by
 have a:=sum_take (f:=f) h
 have b:=sum_take_le hf l (k+1)
 have c:=sum_nonneg hf (l.take k)
 unfold bulkS
 omega
theorem length_le_bulkS {α:Type} {f:α->Int} (hf:∀x,0<=f x) (l:List α):(l.length:Int)<=bulkS f l:=by
 have c:=sum_nonneg hf l
 unfold bulkS
 omega
def SzPost (bulk left n:Int):Prop:=(bulk<=left/\n=left-bulk)\/(left<bulk/\n = -1)
theorem size_nonneg (s:ByteArray):(0:Int)<=(s.size:Int):=Int.natCast_nonneg _
theorem length_nonneg {α:Type} (s:List α):(0:Int)<=(s.length:Int):=Int.natCast_nonneg _
/-! ### An array of the call's own that is filled row by row -/
def Arr (w:World) (g N:Nat):Prop:=∀j,j<N->∃c,w.cell? ⟨g,j,none⟩=some c/\w.frozen? ⟨g,j,none⟩=false
theorem Arr.below {w w' : World} {g N:Nat} (h:Arr w g N) (hb:Below w.heap.size w w'):Arr w' g N:=fun j hj=>
 let ⟨c,h1,h2⟩:=h j hj
 ⟨c,cell_below hb h1,by rw[hb.frozen (p:=⟨g,j,none⟩) (World.block_lt_of_cell? w _ h1),h2]⟩
def storeRow (w:World) (g:Nat):Nat->List Value->World
 |_,[]=>w
 |off,c :: r=>storeRow (w.setCell ⟨g,off,none⟩ c) g (off+1) r
theorem size_storeRow (g:Nat):∀ (r:List Value) (w:World) (off:Nat),(storeRow w g off r).heap.size=w.heap.size
 |[],_,_=>rfl
 |c :: r,w,off=>by rw[storeRow,size_storeRow g r];simp[World.setCell]
theorem below_storeRow (g:Nat):∀ (r:List Value) (w:World) (off:Nat),Below g w (storeRow w g off r)
 |[],_,_=>Below.refl _ _
 |c :: r,w,off=>(Below.setCell (Below.refl g w) (p:=⟨g,off,none⟩) (Nat.le_refl _) c).trans (below_storeRow g r _ _)
theorem agree_storeRow (g:Nat):∀ (r:List Value) (w:World) (off:Nat),Agree (g+1) w (storeRow w g off r)
 |[],_,_=>Agree.refl _ _
 |c :: r,w,off=>(Agree.setCell (Agree.refl _ _) (p:=⟨g,off,none⟩) (Nat.lt_succ_self _) c).trans (by simp[World.setCell]) (agree_storeRow g r _ _)
theorem cell_setCell_ne (w:World) (g o o' : Nat) (u:Value) (h:o≠o'):(w.setCell ⟨g,o,none⟩ u).cell? ⟨g,o',none⟩=w.cell? ⟨g,o',none⟩:=by
 simp only[World.cell?,World.setCell,Array.getElem?_modify]
 cases hg:w.heap[g]? with
 |none=>simp
 |some ob=>cases ob<;>simp[h]
theorem cell_setCell_eq (w:World) (g o:Nat) (u:Value) {c:Value} (h:w.cell? ⟨g,o,none⟩=some c):(w.setCell ⟨g,o,none⟩ u).cell? ⟨g,o,none⟩=some u:=by
 simp only[World.cell?,World.setCell,Array.getElem?_modify]at *
 cases hg:w.heap[g]? with
 |none=>simp[hg]at h
 |some ob=>
  cases ob with
  |cells cs e fr=>
   simp only[hg]at h
   have hlt:o<cs.size:=by
    simp at h
    rcases Nat.lt_or_ge o cs.size with h'|h'
    ·exact h'
    ·simp[Array.getElem?_eq_none h']at h
   simp[hlt]
  |_=>simp[hg]at h
theorem frozen_setCell (w:World) (g o o' : Nat) (u:Value):(w.setCell ⟨g,o,none⟩ u).frozen? ⟨g,o',none⟩=w.frozen? ⟨g,o',none⟩:=by
 simp only[World.frozen?,World.setCell,Array.getElem?_modify]
 cases hg:w.heap[g]? with
 |none=>simp
 |some ob=>cases ob<;>simp
theorem storeRow_out (g:Nat):∀ (r:List Value) (w:World) (off o:Nat),(o<off\/off+r.length<=o)->(storeRow w g off r).cell? ⟨g,o,none⟩=w.cell? ⟨g,o,none⟩
 |[],_,_,_,_=>rfl
 |c :: r,w,off,o,h=>by
  simp only[List.length_cons]at h
  rw[storeRow,storeRow_out g r _ _ o (by omega),cell_setCell_ne _ _ _ _ _ (by omega)]
theorem Arr.set {w:World} {g N:Nat} (h:Arr w g N) (o:Nat) (u:Value):Arr (w.setCell ⟨g,o,none⟩ u) g N:=fun j hj=>by
 obtain⟨c,h1,h2⟩:=h j hj
 by_cases e:o=j
 ·subst e;exact⟨u,cell_setCell_eq _ _ _ _ h1,by rw[frozen_setCell,h2]⟩
 ·exact⟨c,by rw[cell_setCell_ne _ _ _ _ _ e,h1],by rw[frozen_setCell,h2]⟩
theorem Arr.storeRow {g N:Nat} : ∀ (r:List Value) {w:World} (off:Nat),Arr w g N->Arr (storeRow w g off r) g N
 |[],_,_,h=>h
 |c :: r,w,off,h=>Arr.storeRow r (off+1) (h.set off c)
theorem storeRow_in {g N:Nat} : ∀ (r:List Value) {w:World} (off:Nat),Arr w g N->off+r.length<=N->RowAt (storeRow w g off r) g off r
 |[],_,_,_,_=>fun j c h=>by simp at h
 |c :: r,w,off,h,hN=>fun j u hj=>by
  simp only[List.length_cons]at hN
  cases j with
  |zero=>
   simp at hj;subst hj
   obtain⟨c0,h1,_⟩:=h off (by omega)
   rw[Nat.add_zero,Go.Proofs.YtkikkfjmggobpaaGreat.storeRow,storeRow_out g r _ _ off (by omega)]
   exact cell_setCell_eq _ _ _ _ h1
  |succ j=>
   have:=storeRow_in r (off+1) (h.set off c) (by omega) j u (by simpa using hj)
   rw[show off+(j+1)=off+1+j by omega]
   exact this
def Filled {α:Type} (R:Reading α) (sz:Nat) (w:World) (g k:Nat) (xs:List α):Prop:=
 ∀ (i:Nat) x,i<k->xs[i]? = some x->∃r,R (g+1) w r x/\RowAt w g (i*sz) r/\r.length=sz
theorem Filled.zero {α:Type} {R:Reading α} {sz:Nat} {w:World} {g:Nat} {xs:List α} : Filled R sz w g 0 xs:=fun i x h=>absurd h (Nat.not_lt_zero _)
theorem Filled.below {α:Type} {R:Reading α} (gd:R.Good) {sz:Nat} {w w' : World} {g k:Nat} {xs:List α} (h:Filled R sz w g k xs) (hb:Below w.heap.size w w'):Filled R sz w' g k xs:=fun i x hi hx=>
 let ⟨r,h1,h2,h3⟩:=h i x hi hx
 ⟨r,gd.below h1 hb,h2.below hb,h3⟩
theorem Filled.step {α:Type} {R:Reading α} (gd:R.Good) {sz n:Nat} {w:World} {g k off:Nat} {xs:List α} {x:α} {r:List Value} (h:Filled R sz w g k xs) (hA:Arr w g (n*sz)) (hk:k<n) (hoff:off=k*sz)
  (hx:xs[k]? = some x) (hr:R (g+1) w r x) (hl:r.length=sz):Filled R sz (storeRow w g off r) g (k+1) xs/\Arr (storeRow w g off r) g (n*sz):=by
 subst hoff
 have hkn:k*sz+sz<=n*sz:=by rw[<- Nat.succ_mul];exact Nat.mul_le_mul_right _ hk
 refine⟨fun i y hi hy=>?_,hA.storeRow r _⟩
 by_cases e:i=k
 ·subst e
  obtain rfl:x=y:=Option.some.inj (hx.symm.trans hy)
  exact⟨r,gd.agree hr (agree_storeRow g r w _),storeRow_in r _ hA (by rw[hl];exact hkn),hl⟩
 ·obtain⟨s,h1,h2,h3⟩:=h i y (by omega) hy
  refine⟨s,gd.agree h1 (agree_storeRow g r w _),fun j c hc=>?_,h3⟩
  have hj:j<sz:=by
   rcases Nat.lt_or_ge j s.length with h'|h'
   ·omega
   ·simp[List.getElem?_eq_none h']at hc
  have hik:i*sz+sz<=k*sz:=by rw[<- Nat.succ_mul];exact Nat.mul_le_mul_right _ (by omega)
  rw[storeRow_out g r w _ _ (by omega)]
  exact h2 j c hc
theorem Filled.sl {α:Type} {R:Reading α} (gd:R.Good) {sz:Nat} {w:World} {g cap:Nat} {xs:List α} (h:Filled R sz w g xs.length xs) (hc:xs.length<=cap) (hm:cap<=9223372036854775807) :
  Sl R sz g w (.slice (some ⟨g,0,none⟩) xs.length cap) xs:=
 ⟨_,cap,rfl,hc,hm,fun _=>⟨g,0,Nat.le_refl _,rfl,fun i x hx=>
  let ⟨r,h1,h2,_⟩:=h i x (List.getElem?_eq_some_iff.1 hx).1 hx
  ⟨r,gd.mono h1 (by omega),by rw[Nat.zero_add];exact h2⟩⟩⟩
end Go.Proofs.YtkikkfjmggobpaaGreat
namespace Go.Proofs.YtkikkfjmggobpaaGreat
open Go.RowKit
set_option linter.unusedVariables false
structure GVal where
 kind:Int
 n:Int
 s:ByteArray
 deriving DecidableEq
def GVal.wf (x:GVal):Prop:=I64 x.kind/\I64 x.n/\StrOk x.s
def GVal.R:Reading GVal:=fun lo w r x=>r=[.int .i64 x.kind,.int .i64 x.n,.string x.s]/\x.wf
theorem GVal.good:Reading.Good GVal.R:=⟨fun h _=>h,fun h _=>h⟩
def GVal.bulk (x:GVal):Int:=(x.s.size:Int)
theorem GVal.bulk_nonneg (x:GVal):0<=x.bulk:=by
 unfold GVal.bulk
 have h0:=size_nonneg x.s
 omega
def GVal.zero:GVal:=⟨0,0,ByteArray.empty⟩
structure GCell where
 kind:Int
 n:Int
 s:ByteArray
 a:GVal
 b:GVal
 deriving DecidableEq
def GCell.wf (x:GCell):Prop:=I64 x.kind/\I64 x.n/\StrOk x.s/\I64 x.a.kind/\I64 x.a.n/\StrOk x.a.s/\I64 x.b.kind/\I64 x.b.n/\StrOk x.b.s
def GCell.R:Reading GCell:=fun lo w r x=>r=[.int .i64 x.kind,.int .i64 x.n,.string x.s,.int .i64 x.a.kind,.int .i64 x.a.n,.string x.a.s,.int .i64 x.b.kind,.int .i64 x.b.n,.string x.b.s]/\x.wf
theorem GCell.good:Reading.Good GCell.R:=⟨fun h _=>h,fun h _=>h⟩
def GCell.bulk (x:GCell):Int:=(x.s.size:Int)+(x.a.s.size:Int)+(x.b.s.size:Int)
theorem GCell.bulk_nonneg (x:GCell):0<=x.bulk:=by
 unfold GCell.bulk
 have h0:=size_nonneg x.s
 have h1:=size_nonneg x.a.s
 have h2:=size_nonneg x.b.s
 omega
def GCell.zero:GCell:=⟨0,0,ByteArray.empty,GVal.zero,GVal.zero⟩
structure GPool where
 cells:List GCell
 free:List Int
 deriving DecidableEq
def GPool.wf (x:GPool):Prop:=True
def GPool.R:Reading GPool:=fun lo w r x=>∃u0 u1:Value,r=[u0,u1]/\x.wf/\Sl GCell.R 9 lo w u0 x.cells/\Sl IntR 1 lo w u1 x.free
theorem GPool.good:Reading.Good GPool.R:=⟨fun⟨u0,u1,e,f,h0,h1⟩ hb=>⟨u0,u1,e,f,h0.agree GCell.good hb,h1.agree IntR.good hb⟩,fun⟨u0,u1,e,f,h0,h1⟩ hl=>⟨u0,u1,e,f,h0.mono GCell.good hl,h1.mono IntR.good hl⟩⟩
def GPool.bulk (x:GPool):Int:=bulkS GCell.bulk x.cells+(x.free.length:Int)
theorem GPool.bulk_nonneg (x:GPool):0<=x.bulk:=by
 unfold GPool.bulk
 have h0:=bulkS_nonneg GCell.bulk_nonneg x.cells
 have h1:=length_nonneg x.free
 omega
def GPool.zero:GPool:=⟨[],[]⟩
structure GDNode where
 kind:Int
 n:Int
 s:ByteArray
 kids:List Int
 deriving DecidableEq
def GDNode.wf (x:GDNode):Prop:=I64 x.kind/\I64 x.n/\StrOk x.s
def GDNode.R:Reading GDNode:=fun lo w r x=>∃u0:Value,r=[.int .i64 x.kind,.int .i64 x.n,.string x.s,u0]/\x.wf/\Sl IntR 1 lo w u0 x.kids
theorem GDNode.good:Reading.Good GDNode.R:=⟨fun⟨u0,e,f,h0⟩ hb=>⟨u0,e,f,h0.agree IntR.good hb⟩,fun⟨u0,e,f,h0⟩ hl=>⟨u0,e,f,h0.mono IntR.good hl⟩⟩
def GDNode.bulk (x:GDNode):Int:=(x.s.size:Int)+(x.kids.length:Int)
theorem GDNode.bulk_nonneg (x:GDNode):0<=x.bulk:=by
 unfold GDNode.bulk
 have h0:=size_nonneg x.s
 have h1:=length_nonneg x.kids
 omega
def GDNode.zero:GDNode:=⟨0,0,ByteArray.empty,[]⟩
structure GData where
 nodes:List GDNode
 deriving DecidableEq
def GData.wf (x:GData):Prop:=True
def GData.R:Reading GData:=fun lo w r x=>∃u0:Value,r=[u0]/\x.wf/\Sl GDNode.R 4 lo w u0 x.nodes
theorem GData.good:Reading.Good GData.R:=⟨fun⟨u0,e,f,h0⟩ hb=>⟨u0,e,f,h0.agree GDNode.good hb⟩,fun⟨u0,e,f,h0⟩ hl=>⟨u0,e,f,h0.mono GDNode.good hl⟩⟩
def GData.bulk (x:GData):Int:=bulkS GDNode.bulk x.nodes
theorem GData.bulk_nonneg (x:GData):0<=x.bulk:=by
 unfold GData.bulk
 have h0:=bulkS_nonneg GDNode.bulk_nonneg x.nodes
 omega
def GData.zero:GData:=⟨[]⟩
structure GTalk where
 types:List ByteArray
 defs:List ByteArray
 deriving DecidableEq
def GTalk.wf (x:GTalk):Prop:=True
def GTalk.R:Reading GTalk:=fun lo w r x=>∃u0 u1:Value,r=[u0,u1]/\x.wf/\Sl StrR 1 lo w u0 x.types/\Sl StrR 1 lo w u1 x.defs
theorem GTalk.good:Reading.Good GTalk.R:=⟨fun⟨u0,u1,e,f,h0,h1⟩ hb=>⟨u0,u1,e,f,h0.agree StrR.good hb,h1.agree StrR.good hb⟩,fun⟨u0,u1,e,f,h0,h1⟩ hl=>⟨u0,u1,e,f,h0.mono StrR.good hl,h1.mono StrR.good hl⟩⟩
def GTalk.bulk (x:GTalk):Int:=bulkS (fun s:ByteArray=>(s.size:Int)) x.types+bulkS (fun s:ByteArray=>(s.size:Int)) x.defs
theorem GTalk.bulk_nonneg (x:GTalk):0<=x.bulk:=by
 unfold GTalk.bulk
 have h0:=bulkS_nonneg size_nonneg x.types
 have h1:=bulkS_nonneg size_nonneg x.defs
 omega
def GTalk.zero:GTalk:=⟨[],[]⟩
structure GCase where
 name:ByteArray
 lines:List ByteArray
 inputs:List Int
 want:List ByteArray
 deriving DecidableEq
def GCase.wf (x:GCase):Prop:=StrOk x.name
def GCase.R:Reading GCase:=fun lo w r x=>∃u0 u1 u2:Value,r=[.string x.name,u0,u1,u2]/\x.wf/\Sl StrR 1 lo w u0 x.lines/\Sl IntR 1 lo w u1 x.inputs/\Sl StrR 1 lo w u2 x.want
theorem GCase.good:Reading.Good GCase.R:=⟨fun⟨u0,u1,u2,e,f,h0,h1,h2⟩ hb=>⟨u0,u1,u2,e,f,h0.agree StrR.good hb,h1.agree IntR.good hb,h2.agree StrR.good hb⟩,fun⟨u0,u1,u2,e,f,h0,h1,h2⟩ hl=>⟨u0,u1,u2,e,f,h0.mono StrR.good hl,h1.mono IntR.good hl,h2.mono StrR.good hl⟩⟩
def GCase.bulk (x:GCase):Int:=(x.name.size:Int)+bulkS (fun s:ByteArray=>(s.size:Int)) x.lines+(x.inputs.length:Int)+bulkS (fun s:ByteArray=>(s.size:Int)) x.want
theorem GCase.bulk_nonneg (x:GCase):0<=x.bulk:=by
 unfold GCase.bulk
 have h0:=size_nonneg x.name
 have h1:=bulkS_nonneg size_nonneg x.lines
 have h2:=length_nonneg x.inputs
 have h3:=bulkS_nonneg size_nonneg x.want
 omega
def GCase.zero:GCase:=⟨ByteArray.empty,[],[],[]⟩
structure GPNode where
 kind:Int
 n:Int
 s:ByteArray
 kids:List Int
 deriving DecidableEq
def GPNode.wf (x:GPNode):Prop:=I64 x.kind/\I64 x.n/\StrOk x.s
def GPNode.R:Reading GPNode:=fun lo w r x=>∃u0:Value,r=[.int .i64 x.kind,.int .i64 x.n,.string x.s,u0]/\x.wf/\Sl IntR 1 lo w u0 x.kids
theorem GPNode.good:Reading.Good GPNode.R:=⟨fun⟨u0,e,f,h0⟩ hb=>⟨u0,e,f,h0.agree IntR.good hb⟩,fun⟨u0,e,f,h0⟩ hl=>⟨u0,e,f,h0.mono IntR.good hl⟩⟩
def GPNode.bulk (x:GPNode):Int:=(x.s.size:Int)+(x.kids.length:Int)
theorem GPNode.bulk_nonneg (x:GPNode):0<=x.bulk:=by
 unfold GPNode.bulk
 have h0:=size_nonneg x.s
 have h1:=length_nonneg x.kids
 omega
def GPNode.zero:GPNode:=⟨0,0,ByteArray.empty,[]⟩
structure GPat where
 nodes:List GPNode
 deriving DecidableEq
def GPat.wf (x:GPat):Prop:=True
def GPat.R:Reading GPat:=fun lo w r x=>∃u0:Value,r=[u0]/\x.wf/\Sl GPNode.R 4 lo w u0 x.nodes
theorem GPat.good:Reading.Good GPat.R:=⟨fun⟨u0,e,f,h0⟩ hb=>⟨u0,e,f,h0.agree GPNode.good hb⟩,fun⟨u0,e,f,h0⟩ hl=>⟨u0,e,f,h0.mono GPNode.good hl⟩⟩
def GPat.bulk (x:GPat):Int:=bulkS GPNode.bulk x.nodes
theorem GPat.bulk_nonneg (x:GPat):0<=x.bulk:=by
 unfold GPat.bulk
 have h0:=bulkS_nonneg GPNode.bulk_nonneg x.nodes
 omega
def GPat.zero:GPat:=⟨[]⟩
structure GIns where
 op:Int
 a:Int
 b:Int
 s:ByteArray
 deriving DecidableEq
def GIns.wf (x:GIns):Prop:=I64 x.op/\I64 x.a/\I64 x.b/\StrOk x.s
def GIns.R:Reading GIns:=fun lo w r x=>r=[.int .i64 x.op,.int .i64 x.a,.int .i64 x.b,.string x.s]/\x.wf
theorem GIns.good:Reading.Good GIns.R:=⟨fun h _=>h,fun h _=>h⟩
def GIns.bulk (x:GIns):Int:=(x.s.size:Int)
theorem GIns.bulk_nonneg (x:GIns):0<=x.bulk:=by
 unfold GIns.bulk
 have h0:=size_nonneg x.s
 omega
def GIns.zero:GIns:=⟨0,0,0,ByteArray.empty⟩
structure GCode where
 ins:List GIns
 pats:List GPat
 deriving DecidableEq
def GCode.wf (x:GCode):Prop:=True
def GCode.R:Reading GCode:=fun lo w r x=>∃u0 u1:Value,r=[u0,u1]/\x.wf/\Sl GIns.R 4 lo w u0 x.ins/\Sl GPat.R 1 lo w u1 x.pats
theorem GCode.good:Reading.Good GCode.R:=⟨fun⟨u0,u1,e,f,h0,h1⟩ hb=>⟨u0,u1,e,f,h0.agree GIns.good hb,h1.agree GPat.good hb⟩,fun⟨u0,u1,e,f,h0,h1⟩ hl=>⟨u0,u1,e,f,h0.mono GIns.good hl,h1.mono GPat.good hl⟩⟩
def GCode.bulk (x:GCode):Int:=bulkS GIns.bulk x.ins+bulkS GPat.bulk x.pats
theorem GCode.bulk_nonneg (x:GCode):0<=x.bulk:=by
 unfold GCode.bulk
 have h0:=bulkS_nonneg GIns.bulk_nonneg x.ins
 have h1:=bulkS_nonneg GPat.bulk_nonneg x.pats
 omega
def GCode.zero:GCode:=⟨[],[]⟩
structure GTyItem where
 var:Int
 name:ByteArray
 arity:Int
 deriving DecidableEq
def GTyItem.wf (x:GTyItem):Prop:=I64 x.var/\StrOk x.name/\I64 x.arity
def GTyItem.R:Reading GTyItem:=fun lo w r x=>r=[.int .i64 x.var,.string x.name,.int .i64 x.arity]/\x.wf
theorem GTyItem.good:Reading.Good GTyItem.R:=⟨fun h _=>h,fun h _=>h⟩
def GTyItem.bulk (x:GTyItem):Int:=(x.name.size:Int)
theorem GTyItem.bulk_nonneg (x:GTyItem):0<=x.bulk:=by
 unfold GTyItem.bulk
 have h0:=size_nonneg x.name
 omega
def GTyItem.zero:GTyItem:=⟨0,ByteArray.empty,0⟩
structure GTy where
 items:List GTyItem
 deriving DecidableEq
def GTy.wf (x:GTy):Prop:=True
def GTy.R:Reading GTy:=fun lo w r x=>∃u0:Value,r=[u0]/\x.wf/\Sl GTyItem.R 3 lo w u0 x.items
theorem GTy.good:Reading.Good GTy.R:=⟨fun⟨u0,e,f,h0⟩ hb=>⟨u0,e,f,h0.agree GTyItem.good hb⟩,fun⟨u0,e,f,h0⟩ hl=>⟨u0,e,f,h0.mono GTyItem.good hl⟩⟩
def GTy.bulk (x:GTy):Int:=bulkS GTyItem.bulk x.items
theorem GTy.bulk_nonneg (x:GTy):0<=x.bulk:=by
 unfold GTy.bulk
 have h0:=bulkS_nonneg GTyItem.bulk_nonneg x.items
 omega
def GTy.zero:GTy:=⟨[]⟩
structure GCon where
 name:ByteArray
 has:Bool
 arg:GTy
 deriving DecidableEq
def GCon.wf (x:GCon):Prop:=StrOk x.name
def GCon.R:Reading GCon:=fun lo w r x=>∃u0:Value,r=[.string x.name,.bool x.has,u0]/\x.wf/\Sl GTyItem.R 3 lo w u0 x.arg.items
theorem GCon.good:Reading.Good GCon.R:=⟨fun⟨u0,e,f,h0⟩ hb=>⟨u0,e,f,h0.agree GTyItem.good hb⟩,fun⟨u0,e,f,h0⟩ hl=>⟨u0,e,f,h0.mono GTyItem.good hl⟩⟩
def GCon.bulk (x:GCon):Int:=(x.name.size:Int)+bulkS GTyItem.bulk x.arg.items
theorem GCon.bulk_nonneg (x:GCon):0<=x.bulk:=by
 unfold GCon.bulk
 have h0:=size_nonneg x.name
 have h1:=bulkS_nonneg GTyItem.bulk_nonneg x.arg.items
 omega
def GCon.zero:GCon:=⟨ByteArray.empty,false,GTy.zero⟩
structure GType where
 name:ByteArray
 params:Int
 cons:List GCon
 deriving DecidableEq
def GType.wf (x:GType):Prop:=StrOk x.name/\I64 x.params
def GType.R:Reading GType:=fun lo w r x=>∃u0:Value,r=[.string x.name,.int .i64 x.params,u0]/\x.wf/\Sl GCon.R 3 lo w u0 x.cons
theorem GType.good:Reading.Good GType.R:=⟨fun⟨u0,e,f,h0⟩ hb=>⟨u0,e,f,h0.agree GCon.good hb⟩,fun⟨u0,e,f,h0⟩ hl=>⟨u0,e,f,h0.mono GCon.good hl⟩⟩
def GType.bulk (x:GType):Int:=(x.name.size:Int)+bulkS GCon.bulk x.cons
theorem GType.bulk_nonneg (x:GType):0<=x.bulk:=by
 unfold GType.bulk
 have h0:=size_nonneg x.name
 have h1:=bulkS_nonneg GCon.bulk_nonneg x.cons
 omega
def GType.zero:GType:=⟨ByteArray.empty,0,[]⟩
structure GTok where
 kind:Int
 n:Int
 s:ByteArray
 at_:Int
 deriving DecidableEq
def GTok.wf (x:GTok):Prop:=I64 x.kind/\I64 x.n/\StrOk x.s/\I64 x.at_
def GTok.R:Reading GTok:=fun lo w r x=>r=[.int .i64 x.kind,.int .i64 x.n,.string x.s,.int .i64 x.at_]/\x.wf
theorem GTok.good:Reading.Good GTok.R:=⟨fun h _=>h,fun h _=>h⟩
def GTok.bulk (x:GTok):Int:=(x.s.size:Int)
theorem GTok.bulk_nonneg (x:GTok):0<=x.bulk:=by
 unfold GTok.bulk
 have h0:=size_nonneg x.s
 omega
def GTok.zero:GTok:=⟨0,0,ByteArray.empty,0⟩
structure GNode where
 kind:Int
 at_:Int
 n:Int
 s:ByteArray
 kids:List Int
 pats:List GPat
 deriving DecidableEq
def GNode.wf (x:GNode):Prop:=I64 x.kind/\I64 x.at_/\I64 x.n/\StrOk x.s
def GNode.R:Reading GNode:=fun lo w r x=>∃u0 u1:Value,r=[.int .i64 x.kind,.int .i64 x.at_,.int .i64 x.n,.string x.s,u0,u1]/\x.wf/\Sl IntR 1 lo w u0 x.kids/\Sl GPat.R 1 lo w u1 x.pats
theorem GNode.good:Reading.Good GNode.R:=⟨fun⟨u0,u1,e,f,h0,h1⟩ hb=>⟨u0,u1,e,f,h0.agree IntR.good hb,h1.agree GPat.good hb⟩,fun⟨u0,u1,e,f,h0,h1⟩ hl=>⟨u0,u1,e,f,h0.mono IntR.good hl,h1.mono GPat.good hl⟩⟩
def GNode.bulk (x:GNode):Int:=(x.s.size:Int)+(x.kids.length:Int)+bulkS GPat.bulk x.pats
theorem GNode.bulk_nonneg (x:GNode):0<=x.bulk:=by
 unfold GNode.bulk
 have h0:=size_nonneg x.s
 have h1:=length_nonneg x.kids
 have h2:=bulkS_nonneg GPat.bulk_nonneg x.pats
 omega
def GNode.zero:GNode:=⟨0,0,0,ByteArray.empty,[],[]⟩
structure GProgram where
 types:List GType
 nodes:List GNode
 deriving DecidableEq
def GProgram.wf (x:GProgram):Prop:=True
def GProgram.R:Reading GProgram:=fun lo w r x=>∃u0 u1:Value,r=[u0,u1]/\x.wf/\Sl GType.R 3 lo w u0 x.types/\Sl GNode.R 6 lo w u1 x.nodes
theorem GProgram.good:Reading.Good GProgram.R:=⟨fun⟨u0,u1,e,f,h0,h1⟩ hb=>⟨u0,u1,e,f,h0.agree GType.good hb,h1.agree GNode.good hb⟩,fun⟨u0,u1,e,f,h0,h1⟩ hl=>⟨u0,u1,e,f,h0.mono GType.good hl,h1.mono GNode.good hl⟩⟩
def GProgram.bulk (x:GProgram):Int:=bulkS GType.bulk x.types+bulkS GNode.bulk x.nodes
theorem GProgram.bulk_nonneg (x:GProgram):0<=x.bulk:=by
 unfold GProgram.bulk
 have h0:=bulkS_nonneg GType.bulk_nonneg x.types
 have h1:=bulkS_nonneg GNode.bulk_nonneg x.nodes
 omega
def GProgram.zero:GProgram:=⟨[],[]⟩
end Go.Proofs.YtkikkfjmggobpaaGreat
