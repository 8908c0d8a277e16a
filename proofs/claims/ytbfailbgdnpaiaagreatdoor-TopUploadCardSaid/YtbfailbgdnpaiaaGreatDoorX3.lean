/- The engine, part twenty-six: a drawn region whose first part is unordered (new memory, calls): each operation's fact from the values of those that it names; then the rest in the order of the text. Conditions: as part seven. -/
import Derived.Test.YtbfailbgdnpaiaaGreatDoorX2
import Derived.Deep.Slices
import Derived.Laws.CopyRow
import Derived.Lib.Overlaps
import Derived.Test.YtbfailbgdnpaiaaGreatDoorX1
import Derived.RecoverIn
namespace Go.Eng
open Go Go.RowKit

inductive FD where
 | val (v : Value)
 | new (t : Nat) (zs : List Value)
def vv (D:List FD) (vs:Nat→Value) (j:Nat):Value:=match nth D j with | some (.val v)=>v | _=>vs j
def gv (D:List FD) (gs:Nat→Nat) (j:Nat):Value:=match nth D j with | some (.val v)=>v | _=> .pointer (some ⟨gs j,0,none⟩)
section
variable {P:Program} {tt:Nat→Option TI} [TT P tt] {ro:Option Nat} {N n:Nat} {l rest:List Oper} {Q:Exit→Act→World→Prop} {E E0:List (Nat × Value)} {ds:List Deferred} {b:World} {F F0:List SP} {fl:Oper→Bool}

variable {D:List FD} {d:Nat} {op:Op} {ty:TypeId} {pos:String} {aft:Array Edge} {g:Option (Nat × Bool)} {v:Value}
end
end Go.Eng
namespace Go.Eng
open Go Go.RowKit

section
variable {P:Program} {ro:Option Nat} {l:List Oper} {Q:Exit→Act→World→Prop} {N:Nat} {ds:List Deferred} {E0:List (Nat × Value)} {fl:Oper→Bool}

end
end Go.Eng
namespace Go.Eng
open Go Go.RowKit

section
variable {P:Program} {tt:Nat→Option TI} [TT P tt] {ro:Option Nat} {N n:Nat} {C:List Nat} {l rest:List Oper} {Q:Exit→Act→World→Prop} {E E0:List (Nat × Value)} {ds:List Deferred} {b:World} {F F0:List SP} {fl:Oper→Bool}

variable {D:List FD} {d:Nat} {op:Op} {ty:TypeId} {pos:String} {aft:Array Edge} {g:Option (Nat × Bool)} {v:Value}
end
end Go.Eng
namespace Go.Eng
open Go Go.RowKit

section
variable {P:Program} {tt:Nat→Option TI} [TT P tt] {ro:Option Nat} {N:Nat} {l rest:List Oper} {Q:Exit→Act→World→Prop} {E:List (Nat × Value)} {ds:List Deferred} {b:World} {F F0 G:List SP} {fl:Oper→Bool} {kk:Nat}
 {d:Nat} {op:Op} {ty:TypeId} {pos:String} {aft:Array Edge} {g:Option (Nat × Bool)} {v:Value}
theorem An {t g' off e sz n cap at':Nat} {x:Operand} {i:TI} {cs vs:List Value} (q o:Nat) (ht:tt t=some i) (hagg:sh i.desc=true) (hx:ev E x=some (.pointer (some ⟨g',at',none⟩))) (hat:at'=off+o) (hF:nth F q=some (row e sz (.slice (some ⟨g',off,none⟩) n cap) n cs)) (hn:0<n)
  (hv:(cs.drop o).take i.size=vs) (hl:vs.length=i.size):∀ w,Sat b F w→Ex P E (.load t x) ty w (.agg ⟨vs⟩) w:=fun w H=>by
 obtain ⟨A,c,hv',h1,h2,h3,h4,h5⟩:=H.sl hF;simp only [Value.slice.injEq] at hv';obtain ⟨rfl,_,rfl⟩:=hv';obtain ⟨b',off',hA,_,hc⟩:=h5 hn;cases hA;subst hat;refine di ht hagg hx hl fun j hj=> ?_;have hj2:j<i.size:=by omega
 have e1:vs[j]? = cs[o+j]?:=by
  rw [← hv,arh,if_pos hj2,arc]
 rw [e1,ar9];refine hc (o+j) ?_;have:(cs[o+j]?).isSome:=by rw [← e1,apv hj];rfl
 rcases asl (o+j) cs.length with h | h
 ·exact h
 ·rw [as4 h] at this;cases this
theorem kH {t g' off e sz n cap at':Nat} {x:Operand} {i:TI} {cs vs:List Value} (q o:Nat) (hg:cl l E g=some true) (hop:op = .load t x) (ht:tt t=some i) (hagg:sh i.desc=true) (hx:ev E x=some (.pointer (some ⟨g',at',none⟩))) (hF:nth F q=some (row e sz (.slice (some ⟨g',off,none⟩) n cap) n cs)) (hd:Nat.blt d N=true) (hat:at'=off+o) (hn:0<n)
  (hv:(cs.drop o).take i.size=vs) (hl:vs.length=i.size) (h:SO P ro N l rest Q ((d,.agg ⟨vs⟩)::E) ds b F):SO P ro N l (⟨some d,op,ty,pos,aft,g⟩::rest) Q E ds b F:=by
 subst hop;exact fc hg (An q o ht hagg hx hat hF hn hv hl) hd h
theorem su {t g' off e sz n cap at':Nat} {x:Operand} {i:TI} {cs vs:List Value} (q o:Nat) (hg:cl l E g=some true) (hop:op = .load t x) (ht:tt t=some i) (hagg:sh i.desc=true) (hx:ev E x=some (.pointer (some ⟨g',at',none⟩))) (hF:nth F0 q=some (row e sz (.slice (some ⟨g',off,none⟩) n cap) n cs)) (hf:fl ⟨some d,op,ty,pos,aft,g⟩=true) (hd:Nat.blt d N=true)
  (hat:at'=off+o) (hn:0<n) (hv:(cs.drop o).take i.size=vs) (hl:vs.length=i.size) (h:SD P fl ro N F0 l (kk+1) rest Q ((d,.agg ⟨vs⟩)::E) ds b F):SD P fl ro N F0 l kk (⟨some d,op,ty,pos,aft,g⟩::rest) Q E ds b F:=by
 subst hop;exact j7 hg (An q o ht hagg hx hat hF hn hv hl) hf hd h
theorem vp {t g' off e sz n cap:Nat} {x y:Operand} {i:TI} {cs vs cs':List Value} (k o:Nat) (hg:cl l E g=some true) (hf:fl ⟨none,op,ty,pos,aft,g⟩=false) (hop:op = .store t x y) (ht:tt t=some i) (hx:ev E x=some (.pointer (some ⟨g',off,none⟩))) (hy:ev E y=some v) (hz:sq v=some vs)
  {o0:Nat} (hF:nth F k=some (row e sz (.slice (some ⟨g',o0,none⟩) n cap) n cs)) (hG:jf F k (row e sz (.slice (some ⟨g',o0,none⟩) n cap) n cs')=some G) (hc:spl cs o vs=cs') (hs:Nat.beq vs.length i.size=true) (ho:off=o0+o) (hfit:o+vs.length≤cs.length) (hv:∀ u∈vs,u.oneCell'=true) (hE:Ent G F0) (h:SD P fl ro N F0 l (kk+1) rest Q E ds b G) :
  SD P fl ro N F0 l kk (⟨none,op,ty,pos,aft,g⟩::rest) Q E ds b F:=by
 subst hop;exact Ai hg hf (Ah k ht hx hy hz hs hv hF ho hfit hc hG) hE h
theorem Hh {t e s1 s2:Nat} {z1:Value} {f1:List (Nat × Nat)} {i:TI} {x:Operand} {cs:List Value} {w:World} (ht:tt t=some ⟨.slice e,s1,s2,z1,f1⟩) (he:tt e=some i) (hx:ev E x=some v) (hz:sq v=some cs) (hl:cs.length=i.size) (hs:i.size≤16777216) :
  Ex P E (.buildSlice t 1 ⟨[(0,x)]⟩) ty w (.slice (some ⟨w.heap.size,0,none⟩) 1 1) (w.alloc (.cells cs.toArray e)):=by
 have hc:=vk hz;refine kw ht he (vs:= [(0,v)]) (by simp [hx]) Z (by omega) fun z hz'=> ?_;have h1:Nat.beq v.cells.size i.size=true:=by
  have:v.cells.size=i.size:=by rw [← hl,← hc];simp
  rw [this];exact asp _
 have h2:Nat.ble i.size z.length=true:=asd (by omega);simp only [ws,h1,hc,spl,atu,ar1,arb,aqy];rw [aq0 (by omega),aqg,h2]
theorem li {t e s1 s2:Nat} {z1:Value} {f1:List (Nat × Nat)} {i:TI} {x:Operand} {cs:List Value} (hg:cl l E g=some true) (hop:op = .buildSlice t 1 ⟨[(0,x)]⟩) (ht:tt t=some ⟨.slice e,s1,s2,z1,f1⟩) (he:tt e=some i) (hx:ev E x=some v) (hz:sq v=some cs) (hd:Nat.blt d N=true) (hl:cs.length=i.size) (hs:i.size≤16777216)
  (h:∀ g',SO P ro N l rest Q ((d,.slice (some ⟨g',0,none⟩) 1 1)::E) ds b (pt g' e cs::F)):SO P ro N l (⟨some d,op,ty,pos,aft,g⟩::rest) Q E ds b F:=by
 subst hop;exact ⟨fun w H=>fm hg (Hh ht he hx hz hl hs) hd ((h w.heap.size).1 _ (H.alloc (Fr.alloc w _) (Blk.new w e cs) (aqp _)))⟩
theorem yr {t e s1 s2:Nat} {z1:Value} {f1:List (Nat × Nat)} {i:TI} {x:Operand} {cs:List Value} (hg:cl l E g=some true) (hf:fl ⟨some d,op,ty,pos,aft,g⟩=false) (hop:op = .buildSlice t 1 ⟨[(0,x)]⟩) (ht:tt t=some ⟨.slice e,s1,s2,z1,f1⟩) (he:tt e=some i) (hx:ev E x=some v) (hz:sq v=some cs) (hd:Nat.blt d N=true) (hl:cs.length=i.size) (hs:i.size≤16777216) (hE:Ent F F0)
  (h:∀ g',SD P fl ro N F0 l (kk+1) rest Q ((d,.slice (some ⟨g',0,none⟩) 1 1)::E) ds b (pt g' e cs::F)):SD P fl ro N F0 l kk (⟨some d,op,ty,pos,aft,g⟩::rest) Q E ds b F:=by
 subst hop;exact ⟨fun w H=>nY hg hf (Hh ht he hx hz hl hs) ((H.ext (Fr.alloc w _)).ent hE) hd ((h w.heap.size).1 _ (H.alloc (Fr.alloc w _) (Blk.new w e cs) (aqp _)))⟩
theorem ab2 {t t':Nat} {i:TI} {x:Operand} (hg:cl l E g=some true) (hop:op = .typeAssert x t' t false) (hx:ev E x=some (.iface t v)) (ht:tt t=some i) (hi:og i.desc=false) (hf:fl ⟨some d,op,ty,pos,aft,g⟩=true) (hd:Nat.blt d N=true) (h:SD P fl ro N F0 l (kk+1) rest Q ((d,v)::E) ds b F) :
  SD P fl ro N F0 l kk (⟨some d,op,ty,pos,aft,g⟩::rest) Q E ds b F:=by subst hop;exact dU hg (V7 hx ht hi) hf hd h
variable {n:Nat} {C:List Nat} {E0:List (Nat × Value)} {D:List FD}
end
end Go.Eng
namespace Go.Eng
open Go Go.RowKit

theorem M6 {P:Program} {tt:Nat→Option TI} [TT P tt] {w:World} {t ti ty e n s1 s2 u1 u2:Nat} {q:IntKind} {i:TI} {z1 z2:Value} {f1 f2:List (Nat × Nat)} (ht:tt t=some ⟨.slice e,s1,s2,z1,f1⟩) (hti:tt ti=some ⟨.int q,u1,u2,z2,f2⟩) (he:tt e=some i)
  (hsz:0<i.size) (h0:0<n) (hn:n≤67108864) (hb:i.bytes≤2097152) :
  (Builtin.append_ #[t,ti] ty #[.slice none 0 0,.int .i64 n]).run P w =
   .ok (.slice (some ⟨w.heap.size,0,none⟩) n (grownCap w n 0 e)) (w.drew.alloc (.cells (Builtin.zeroCells i.zero.cells n++Builtin.zeroCells i.zero.cells (grownCap w n 0 e - n)) e)):=by
 obtain ⟨j,hj,h2,h3,h4⟩:=TT.info (P:=P) e i he;have hu:=TT.und (P:=P) t _ ht Z;have hv:=TT.und (P:=P) ti _ hti Z;have hw:IntKind.i64.wrap (n:Int)=n:=I64.wrap (by unfold I64;omega);have hbytes:n*i.bytes≤140737488355328:=art (atp hn hb) (by decide);have a1:¬ ((n:Int)<0):=by omega
 have a2:¬ (281474976710656<(n:Int)*(i.bytes:Int)):=by
  have:((n*i.bytes:Nat):Int)≤140737488355328:=by omega
  rw [Int.natCast_mul] at this;omega
 have a3:n≠0:=by omega
 have a4:i.size≠0:=by omega
 have a5:¬ (9223372036854775807<(n:Int)):=by omega
 have a6:¬ (281474976710656<Builtin.nextslicecap n 0*i.bytes):=by rw [nextslicecap_zero h0];omega
 simp [Builtin.append_,run_underlying hu,run_underlying hv,sizeOf,typeInfo,hj,h2,h3,h4,zeroValue,asInt,asIntOf,hw,a1,a2,a3,a4,a5,a6,Question.forced,run_firstCells_none,newRow,grownCap];intro h;rcases Nat.mul_eq_zero.1 h with h | h
 ·exact absurd h a3
 ·exact absurd h a4

theorem Y1 {P:Program} {f:FuncId} {args:List Value} {W:World} (h:SC P f args W [Is W] (fun v F'=>v = .bool true∧F' = [Is W])):Calls P f args.toArray W (fun e w'=>e = .returned (.bool true)∧Ext W w') :=
 (h W (Sat.start W)).mono fun _ _ ⟨_,_,h1,⟨h2,h3⟩,h4⟩=>by subst h2;subst h3;exact ⟨h1,h4.is (k:=0) rfl⟩
section
variable {P:Program} {tt:Nat→Option TI} [TT P tt] {ro:Option Nat} {N:Nat} {l rest:List Oper} {Q:Exit→Act→World→Prop} {E:List (Nat × Value)} {ds:List Deferred} {b:World} {F G:List SP}
 {d:Nat} {op:Op} {ty:TypeId} {pos:String} {aft:Array Edge} {g:Option (Nat × Bool)} {v:Value}
theorem Hi {t e s1 s2:Nat} {z1:Value} {f1:List (Nat × Nat)} {i:TI} (hg:cl l E g=some true) (hop:op = .buildSlice t 0 ⟨[]⟩) (ht:tt t=some ⟨.slice e,s1,s2,z1,f1⟩) (he:tt e=some i) (hd:Nat.blt d N=true)
  (h:∀ g',SO P ro N l rest Q ((d,.slice (some ⟨g',0,none⟩) 0 0)::E) ds b (pt g' e []::F)):SO P ro N l (⟨some d,op,ty,pos,aft,g⟩::rest) Q E ds b F:=by
 subst hop;exact ⟨fun w H=>fm hg (kw (vs:= []) (cells:= []) ht he Z Z (by omega) (fun z hz=>by
  have:z = []:=aql (by omega);subst this;rfl)) hd ((h w.heap.size).1 _ (H.alloc (Fr.alloc w _) (Blk.new w e []) (aqp _)))⟩
theorem Hj {t ti e n sz s1 s2 u1 u2:Nat} {q:IntKind} {z1 z2:Value} {f1 f2:List (Nat × Nat)} {i:TI} {x y:Operand} (hg:cl l E g=some true) (hd:Nat.blt d N=true)
  (hop:op = .call ⟨.builtin .append,⟨[x,y]⟩,⟨[t,ti]⟩⟩) (ht:tt t=some ⟨.slice e,s1,s2,z1,f1⟩) (hti:tt ti=some ⟨.int q,u1,u2,z2,f2⟩) (he:tt e=some i) (hi:(Nat.beq i.zero.cells.size sz&&Nat.beq i.size sz&&Nat.ble i.bytes 2097152&&Nat.blt 0 sz)=true)
  (hx:ev E x=some (.slice none 0 0)) (hy:ev E y=some (.int .i64 n)) (h0:0<n) (hn:n≤67108864)
  (h:∀ gg c zs,SO P ro N l rest Q ((d,.slice (some ⟨gg,0,none⟩) n c)::E) ds b (row e sz (.slice (some ⟨gg,0,none⟩) n c) n zs::F)):SO P ro N l (⟨some d,op,ty,pos,aft,g⟩::rest) Q E ds b F:=by
 simp only [aqi] at hi;obtain ⟨⟨⟨h1',h2'⟩,h3'⟩,h4'⟩:=hi;have e1:=aqd h1';have e2:=aqd h2';have e3:=aqb h3';have e4:0<sz:=aqb h4';subst e2
 constructor
 intro w H;subst hop;have hrun:=M6 (P:=P) (w:=w) (ty:=ty) ht hti he e4 h0 hn e3;refine fm (w':=w.drew.alloc (.cells (Builtin.zeroCells i.zero.cells n++Builtin.zeroCells i.zero.cells (grownCap w n 0 e - n)) e)) hg ?_ hd ((h w.heap.size (grownCap w n 0 e) (Builtin.zeroCells i.zero.cells n).toList).1 _ ?_)
 ·intro ρ o hρ hop' hty;subst hty;simp only [execOp,hop',resolve,invoke,builtin,Sem.run_bind,Sem.run_pure,Result.andThen];have e1:Array.map ρ #[x,y] = #[.slice none 0 0,.int .i64 n]:=by simp [hρ _ _ hx,hρ _ _ hy]
  simp only [e1,hrun]
 ·have hge:=grownCap_ge w n 0 e;have hgm:=grownCap_le_maxLen w n 0 e (by unfold maxLen;omega);have hz:(Builtin.zeroCells i.zero.cells n).size=n*i.size:=by rw [size_zeroCells,e1]
  refine H.newOat ((Fr.drew w).trans (Fr.alloc _ _)) ⟨by rw [aqx,hz],.inr ⟨w.heap.size,0,_,_,rfl,aqp _,heap_alloc_new w.drew _,hge,hgm,?_,?_⟩⟩
  ·simp only [Array.size_append,size_zeroCells,e1,← ass,aqy];apply Nat.le_of_eq;congr 1;omega
  ·simp only [Array.toList_append,atb];exact arl (by rw [aqx,hz])
end
end Go.Eng
namespace Go.Eng
open Go Go.RowKit Go.ChangeShapes Go.WideShapes Go.ChangeAt Go.Deep

abbrev Rdg (α:Type):=World→List Value→α→Prop
def rdI (k:IntKind):Rdg Int:=fun _ cs n=>cs = [.int k n]∧(Lit.int k n).wf=true
def rdL {α:Type} (sz:Nat) (R:Rdg α):Rdg (Value × List α):=fun W cs x=>cs = [x.1]∧∃ ess:List (List Value),ess.length=x.2.length∧(∀ e∈ess,e.length=sz)∧SL W sz x.1 x.2.length ess.flatten∧∀ (i:Nat) e a,ess[i]? = some e→x.2[i]? = some a→R W e a
def Hk {α:Type} (P:Program) (t:TypeId) (R:Rdg α):Prop:=∀ (H:Type) (enc:TypeId × Value→H) (W:World) (base:Nat) (spare:Nat→Bool) (held:Bool) (fuel:Nat) (cs:List Value) y,DataW.trod enc P W base spare held fuel t cs=some y→∃ x,R W cs x
variable {P:Program}
theorem J1 {t:TypeId} {k:IntKind} (ht:P.underlying t=some (.int k)):Hk P t (rdI k):=by
 intro H enc W base spare held fuel cs y h;cases fuel with
 | zero => simp [DataW.trod] at h
 | succ n =>
  unfold DataW.trod at h;rw [ht] at h
  split at h <;> simp_all
  exact ⟨_,⟨by obtain ⟨⟨rfl,_⟩,_⟩:=h;rfl,h.1.2⟩⟩
theorem Ap {sz:Nat}:∀ {ess:List (List Value)},(∀ e∈ess,e.length=sz)→∀ (i k:Nat),k<sz→ess.flatten[i*sz+k]? = (ess[i]?).bind (·[k]?)
 | [], _, i, k, _ => by simp
 | e :: ess, h, 0, k, hk => by
  have:=h e (by simp);simp only [ar4,atu,aqy];rw [aq6 (by omega)];rfl
 | e :: ess, h, i + 1, k, hk => by
  have he:=h e (by simp);have ih:=Ap (ess:=ess) (fun x hx=>h x (by simp [hx])) i k hk;simp only [ar4];rw [asj (by rw [he,asi];omega),he,show (i+1)*sz+k - sz=i*sz+k by rw [asi];omega,ih];rfl
theorem rK {sz:Nat}:∀ {ess:List (List Value)},(∀ e∈ess,e.length=sz)→ess.flatten.length=ess.length*sz
 | [], _ => by simp
 | e :: ess, h => by
  have ih:=rK (ess:=ess) (fun x hx=>h x (by simp [hx]));simp only [ar4,aps,h e (by simp),ih,ap3,asi];omega
theorem wD {β α:Type} (p:Nat→β→α→Prop):∀ n,(∀ i,i<n→∃ c x,p i c x)→∃ (cs:List β) (xs:List α),cs.length=n∧xs.length=n∧∀ i c x,cs[i]? = some c→xs[i]? = some x→p i c x
 | 0, _ => ⟨[], [], rfl, rfl, by simp⟩
 | n + 1, h => by
  obtain ⟨cs,xs,h1,h2,h3⟩:=wD p n fun i hi=>h i (by omega)
  obtain ⟨c,x,hp⟩:=h n (by omega);refine ⟨cs ++ [c],xs ++ [x],by simp [h1],by simp [h2],fun i c' x' e1 e2=> ?_⟩;rcases Nat.lt_trichotomy i n with hi | rfl | hi
  ·rw [aq6 (by omega)] at e1 e2;exact h3 i c' x' e1 e2
  ·rw [asj (by omega),h1] at e1;rw [asj (by omega),h2] at e2;simp at e1 e2;subst e1;subst e2;exact hp
  ·have:=(ap4.1 e1).1;simp at this;omega
theorem rL {α:Type} {R:Rdg α} {t e:TypeId} {sz:Nat} (ht:P.underlying t=some (.slice e)) (hsz:P.cellsOf e=sz) (h0:0<sz) (he:Hk P e R):Hk P t (rdL sz R):=by
 intro H enc W base spare held fuel cs y h;rcases open_slice ht h with ⟨rfl,_⟩ | ⟨a,len,cap,m,n,D,Pl,rfl,_,hc,hm,hmm,_,hel⟩
 ·exact ⟨(.slice none 0 0,[]),rfl,[],rfl,by simp,⟨none,0,rfl,by simp,aqp _,aqc _,fun _=>rfl,fun h=>absurd h (Nat.lt_irrefl 0)⟩,by simp⟩
 have hlm:len≤m:=by rw [hmm];split <;> omega
 rw [hsz] at hel;obtain ⟨ess,xs,e1,e2,e3⟩:=wD (fun i c x=>W.cells? base (a.add (i*sz)) sz=some c∧R W c x) len fun i hi=>by
  obtain ⟨cs',h1,h2⟩:=hel i (by omega);obtain ⟨x,hx⟩:=he _ _ _ _ _ _ _ _ _ h2;exact ⟨cs',x,h1,hx⟩
 have hlen:∀ c∈ess,c.length=sz:=fun c hc=>by
  obtain ⟨i,hi,rfl⟩:=asu.1 hc;have:=(e3 i _ _ (apv hi) (apv (l:=xs) (i:=i) (by omega))).1;exact (World.cells?_some this).2.1
 refine ⟨(.slice (some a) len cap,xs),rfl,ess,by dsimp only;omega,hlen,⟨some a,cap,by rw [e2],by rw [rK hlen,e1,e2],by dsimp only;omega,hm,by simp,fun hn=> ?_⟩,fun i c x h1 h2=>(e3 i c x h1 h2).2⟩;rw [e2] at hn;have hcell:∀ i k,i<len→k<sz→W.cell? (a.add (i*sz+k))=ess.flatten[i*sz+k]?:=fun i k hi hk=>by
  have hi':i<ess.length:=by omega
  have:=(e3 i _ _ (apv hi') (apv (l:=xs) (i:=i) (by omega))).1;have h2:=(World.cells?_some this).2.2 k hk;rw [Ap hlen i k hk,apv hi',Option.bind_some,← h2];rw [Addr.add_add]
 obtain ⟨b,off,spot⟩:=a;have h00:=hcell 0 0 hn h0;have hfl:=rK hlen;have hpos:0<ess.flatten.length:=by rw [hfl,e1];exact Nat.mul_pos hn h0
 have hc0:W.cell? ⟨b,off,spot⟩=some ess.flatten[0]:=by
  rw [← apv hpos];simpa [Addr.add] using h00
 have hspot:spot=none:=World.cell?_spot hc0;subst hspot;refine ⟨b,off,rfl,World.block_lt_of_cell? W _ hc0,fun j hj=> ?_⟩;rw [hfl,e1] at hj;have hdm:j / sz*sz+j % sz=j:=by rw [Nat.mul_comm];exact Nat.div_add_mod j sz
 have:=hcell (j / sz) (j % sz) (Nat.div_lt_of_lt_mul (by rw [Nat.mul_comm];exact hj)) (Nat.mod_lt _ h0);rw [hdm] at this;rw [← this];congr 1;unfold Addr.add;split <;> simp_all
theorem M7 {α:Type} {R:Rdg α} {t:TypeId} (ho:Hk P t R) {H:Type} {enc:TypeId × Value→H} {W:World} {base:Nat} {spare:Nat→Bool} {held:Bool} {v:Value} {d:DataW H} {ps:List MemPlace} (h:DataW.Trod enc P W base spare held t v d ps):∃ x,R W v.cells.toList x:=by
 obtain ⟨fuel,hf⟩:=h;exact ho _ _ _ _ _ _ _ _ _ hf
end Go.Eng
namespace Go.Eng
open Go Go.RowKit

theorem M8 (z:Value) (n:Nat):(madeCells #[z] (n*1)).toList=List.replicate n z:=by
 apply List.ext_getElem
 ·simp [madeCells]
 ·intro i h1 h2;simp [madeCells,Nat.mod_one]
theorem Hl {P:Program} {ro:Option Nat} {N:Nat} {Q:Exit→Act→World→Prop} {E:List (Nat × Value)} {ds:List Deferred} {b:World} {F:List SP} {c y:Code} {S:Type} (Em:S→List (Nat × Value)) (Fm:S→List SP) (I:S→Prop) (hy:∀ s,I s→SW P ro N y Q (Em s) ds b (Fm s))
  (hc:(∀ s E' F',I s→Sub (Em s) E'→Ent F' (Fm s)→SN N (cR P ro y Q) .normal E' ds b F')→SW P ro N c (cR P ro y Q) E ds b F):SW P ro N c (cR P ro y Q) E ds b F :=
 hc fun s _ _ hI hs he=>ab (Yu hs (qb he (hy s hI)))
section
variable {P:Program} {tt:Nat→Option TI} [TT P tt] {ro:Option Nat} {N:Nat} {l rest:List Oper} {Q:Exit→Act→World→Prop} {E:List (Nat × Value)} {ds:List Deferred} {b:World} {F G:List SP}
 {d:Nat} {op:Op} {ty:TypeId} {pos:String} {aft:Array Edge} {g:Option (Nat × Bool)} {v:Value}
theorem Sd {t e n sz s1 s2:Nat} {z1:Value} {f1:List (Nat × Nat)} {i:TI} {x y:Operand} {m:Int} {cs:List Value} (hg:cl l E g=some true) (hd:Nat.blt d N=true) (hop:op = .makeSlice t x y)
  (ht:tt t=some ⟨.slice e,s1,s2,z1,f1⟩) (he:tt e=some i) (hi:(Nat.beq i.size sz&&Nat.ble i.bytes 2097152)=true)
  (hx:ev E x=some (.int .i64 m)) (hy:ev E y=some (.int .i64 m)) (hm:m=(n:Int)) (hn:n≤67108864) (hcs:(madeCells i.zero.cells (n*sz)).toList=cs)
  (h:∀ g',SO P ro N l rest Q ((d,.slice (some ⟨g',0,none⟩) n n)::E) ds b (row e sz (.slice (some ⟨g',0,none⟩) n n) n cs::F)):SO P ro N l (⟨some d,op,ty,pos,aft,g⟩::rest) Q E ds b F:=by
 subst hcs;exact ⟨fun w H=>G6 hg hd hop ht he hi hx hy hm hn (aqp _) fun w' hmine hext=>(h w.heap.size).1 w' (H.newOat hext (j5.oat hmine))⟩
end
end Go.Eng
namespace Go.Eng
open Go Go.RowKit

section
variable {P:Program} {ro:Option Nat} {l:List Oper} {Q:Exit→Act→World→Prop} {S:World→Prop} {fl:Oper→Bool} {y:Nat} {oy:Oper}

def AN (P:Program) (fl:Oper→Bool) (ro:Option Nat) (l:List Oper) (S:World→Prop) (Q:Exit→Act→World→Prop) (oy:Oper) (R:List Nat) (a:Act) (w:World):Prop :=
 Eff P ro oy a w fun v w'=>S w'∧Tx P fl ro l S Q R (a.put oy.dst v) w'
def T1 (P:Program) (fl:Oper→Bool) (ro:Option Nat) (l:List Oper) (S:World→Prop) (Q:Exit→Act→World→Prop) (y:Nat) (oy:Oper):List Nat→Act→World→Prop
 | [], a, w => AN P fl ro l S Q oy [] a w
 | i :: R, a, w => AN P fl ro l S Q oy (i :: R) a w ∧ ((ov l i).contains y = false → ∃ o, l[i]? = some o ∧
   (Region.wanted o (yielded l.toArray a.tmps)=true →
    (fl o=true∧∃ v,(∀ W,S W→(execOp a.eval o).run P W = .ok (.value v) W)∧T1 P fl ro l S Q y oy R (a.put o.dst v) w) ∨
    (fl o=false∧Eff P ro o a w fun v w'=>S w'∧T1 P fl ro l S Q y oy R (a.put o.dst v) w')) ∧
   (Region.wanted o (yielded l.toArray a.tmps)=false→T1 P fl ro l S Q y oy R (a.put o.dst undef) w))
end
end Go.Eng
namespace Go.Eng
open Go Go.RowKit

section
variable {P:Program} {tt:Nat→Option TI} [TT P tt] {ro:Option Nat} {N:Nat} {l rest:List Oper} {Q:Exit→Act→World→Prop} {E:List (Nat × Value)} {ds:List Deferred} {b:World} {F F0 G:List SP} {fl:Oper→Bool} {k:Nat}
 {y dy t:Nat} {zs:List Value} {oy o:Oper}

theorem Sf (A:List SP):Ent (F++A) F:=by
 rintro m ⟨H,a,b,c⟩;refine ⟨H,a,b,fun i X hX=>c i X ?_⟩;rw [o9];have:i<F.length:=by rw [np] at hX;exact (ap4.1 hX).1
 rw [if_pos this];exact hX
def Tm (P:Program) (fl:Oper→Bool) (ro:Option Nat) (l:List Oper) (S:World→Prop) (Q:Exit→Act→World→Prop) (y:Nat) (oy:Oper) (R:List Nat) (m:Option Nat) (a:Act) (w:World):Prop :=
 (m=none→T1 P fl ro l S Q y oy R a w)∧(m.isSome=true→Tx P fl ro l S Q R a w)
def Hd (P:Program) (fl:Oper→Bool) (ro:Option Nat) (l:List Oper) (S:World→Prop) (Q:Exit→Act→World→Prop) (y:Nat) (oy:Oper) (k:Nat) (R:List Nat) (m:Option Nat) (a:Act) (w:World):Prop :=
 ∃ o,l[k]? = some o∧(Region.wanted o (yielded l.toArray a.tmps)=true →
  (fl o=true∧∃ v,(∀ W,S W→(execOp a.eval o).run P W = .ok (.value v) W)∧Tm P fl ro l S Q y oy R m (a.put o.dst v) w) ∨
  (fl o=false∧Eff P ro o a w fun v w'=>S w'∧Tm P fl ro l S Q y oy R m (a.put o.dst v) w')) ∧
  (Region.wanted o (yielded l.toArray a.tmps)=false→Tm P fl ro l S Q y oy R m (a.put o.dst undef) w)
variable {d:Nat} {op:Op} {ty:TypeId} {pos:String} {aft:Array Edge} {g:Option (Nat × Bool)} {v:Value}
end
end Go.Eng
namespace Go.Eng
open Go Go.RowKit

section
variable {P:Program} {tt:Nat→Option TI} [TT P tt] {ro:Option Nat} {N:Nat} {l rest:List Oper} {Q:Exit→Act→World→Prop} {E:List (Nat × Value)} {ds:List Deferred} {b:World} {F F0 G:List SP} {fl:Oper→Bool} {kk:Nat}
 {d:Nat} {op:Op} {ty:TypeId} {pos:String} {aft:Array Edge} {g:Option (Nat × Bool)} {v:Value}
theorem zv {e sz n c gg off k:Nat} {cs:List Value} {u:Value} (hk:nth F k=some (row e sz (.slice (some ⟨gg,off,none⟩) n c) n cs)) {j:Nat} (hj:cs[j]? = some u):∀ w,Sat b F w→w.cell? ⟨gg,off+j,none⟩=some u:=fun w H=>by
 obtain ⟨A,c',hv,hl,_,_,_,hc⟩:=H.sl hk;simp only [Value.slice.injEq,true_and] at hv;obtain ⟨rfl,rfl⟩:=hv;have hlt:j<cs.length:=(ap4.1 hj).1;have h0:0<n:=by
  rcases aq4 n with h | h
  ·subst h;rw [hl] at hlt;omega
  ·exact h
 obtain ⟨bb,off',hA,_,hcell⟩:=hc h0;cases hA;rw [hcell j hlt,hj]
theorem Aq {e sz n c k j:Nat} {A:Option Addr} {cs:List Value} (hk:nth F k=some (row e sz (.slice A n c) n cs)) (hj:j≤n):∀ w,Sat b F w→SL w sz (.slice (if c=j then A else A.map (·.add (j*sz))) (n - j) (c - j)) (n - j) (cs.drop (j*sz)):=fun w H=>((H.oat hk).drop hj).sl
variable {k:Nat} {y dy tv:Nat} {zs:List Value} {oy:Oper}
end
end Go.Eng
namespace Go.Eng
open Go Go.RowKit

def cat:List (List Value)→List Value
 | [] => []
 | [a] => a
 | a :: l => a ++ cat l
theorem dY (a:List Value) (l:List (List Value)):cat (a::l)=a++cat l:=by
 cases l with
 | nil => simp [cat]
 | cons b l => rfl
def J3 (zs:List Value):List (Nat × Nat)→List (List Value)
 | [] => []
 | (o, n) :: l => (zs.drop o).take n :: J3 zs l
def Ey:List (List Value)→Nat→List Value→List (List Value)
 | [], _, _ => []
 | _ :: l, 0, c => c :: l
 | a :: l, k + 1, c => a :: Ey l k c
def M9:Nat→List (Nat × Nat)→Nat→Bool
 | o, [], t => Nat.beq o t
 | o, (q, n) :: l, t => Nat.beq o q && M9 (o + n) l t
def zc:Value→List Value
 | .agg ⟨cs⟩ => cs
 | v => [v]
theorem V8 (v:Value):v.cells.toList=zc v:=by cases v <;> rfl
def Na (pl:List (Nat × Nat)):List (Nat × Value)→Prop
 | [] => True
 | (k, v) :: l => (match nth pl k with | some p => (zc v).length = p.2 | none => False) ∧ Na pl l
def Hm (s:List (List Value)):List (Nat × Value)→List (List Value)
 | [] => s
 | (k, v) :: l => Hm (Ey s k (zc v)) l
def Nb:Nat→List (Nat × Nat)→List (List Value)→Prop
 | _, [], [] => True
 | o, (q, n) :: pl, a :: s => o = q ∧ a.length = n ∧ Nb (o + n) pl s
 | _, _, _ => False
theorem wE {zs:List Value}:∀ {pl:List (Nat × Nat)} {o t:Nat},M9 o pl t=true→t=zs.length→Nb o pl (J3 zs pl)∧cat (J3 zs pl)=zs.drop o
 | [], o, t, h, ht => by
  have:=aqd h;exact ⟨trivial,by rw [J3,cat,aq0 (by omega)]⟩
 | (q, n) :: pl, o, t, h, ht => by
  simp only [M9,aqi] at h;obtain ⟨h1,h2⟩:=h;have:=aqd h1;subst this;obtain ⟨i1,i2⟩:=wE h2 ht;have hle:o+n≤t:=by
   clear i1 i2 ht;revert h2;generalize o+n=m
   induction pl generalizing m with
   | nil => intro h2; have := aqd h2; omega
   | cons p pl ih =>
    intro h2;obtain ⟨q,n'⟩:=p;simp only [M9,aqi] at h2;have:=ih _ h2.2;omega
  refine ⟨⟨rfl,by rw [ap7,aqw];omega,i1⟩,?_⟩;rw [J3,dY,i2,← atz,aqs]
theorem As:∀ {pl:List (Nat × Nat)} {s:List (List Value)} {o k:Nat} {p:Nat × Nat} {c:List Value},Nb o pl s→nth pl k=some p→c.length=p.2→Nb o pl (Ey s k c)∧o≤p.1∧spl (cat s) (p.1 - o) c=cat (Ey s k c)∧(p.1 - o)+p.2≤(cat s).length
 | [], _, _, _, _, _, _, h, _ => by simp [nth] at h
 | (q, n) :: pl, [], _, _, _, _, h, _, _ => h.elim
 | (q, n) :: pl, a :: s, o, 0, p, c, h, hp, hc => by
  obtain ⟨rfl,h2,h3⟩:=h;simp only [nth,apx] at hp;subst hp;dsimp only at hc;refine ⟨⟨rfl,hc,h3⟩,aqp _,?_,?_⟩
  ·simp only [Ey,dY,spl,Nat.sub_self,ar1,arb,aqy];rw [hc,← h2,List.drop_left]
  ·rw [dY,aps,h2,Nat.sub_self];dsimp only;omega
 | (q, n) :: pl, a :: s, o, k + 1, p, c, h, hp, hc => by
  obtain ⟨rfl,h2,h3⟩:=h;simp only [nth] at hp;obtain ⟨i1,i2,i3,i4⟩:=As h3 hp hc;refine ⟨⟨rfl,h2,i1⟩,by omega,?_,?_⟩
  ·simp only [Ey,dY,← i3,spl];have e:p.1 - o=a.length+(p.1 - (o+n)):=by omega
   rw [e,atr,aqh (by omega),arp,ar9,List.drop_append,aq0 (by omega),arb,arp,ap0]
  ·rw [dY,aps];omega
theorem wF {pl:List (Nat × Nat)}:∀ {vs:List (Nat × Value)} {s:List (List Value)},Nb 0 pl s→Na pl vs→ws (nth pl) (cat s) vs=some (cat (Hm s vs))
 | [], _, _, _ => rfl
 | (k, v) :: vs, s, h, hc => by
  obtain ⟨h1,h2⟩:=hc;cases hp:nth pl k with
  | none => rw [hp] at h1; exact h1.elim
  | some p =>
   rw [hp] at h1;dsimp only at h1;obtain ⟨i1,_,i3,i4⟩:=As h hp h1;rw [atq] at i3 i4;have e1:v.cells.size=p.2:=by rw [← h1,← V8,aqx]
   obtain ⟨off,size⟩:=p;dsimp only at *;have b1:Nat.beq v.cells.size size=true:=by rw [e1];exact asp _
   have b2:Nat.ble (off+size) (cat s).length=true:=asd i4;simp only [ws,hp,b1,b2,Hm];rw [V8,i3];exact wF i1 h2
def Sg (tt:Nat→Option TI) (E:List (Nat × Value)):Op→Option (Prop × Value)
 | .build t ⟨parts⟩ => match tt t with
  | some ⟨.struct _, _, _, .agg ⟨zs⟩, fs⟩ => match mB tt fs, evp E parts with
   | some pl, some vs => match M9 0 pl zs.length with
    | true => some (Na pl vs, .agg ⟨cat (Hm (J3 zs pl) vs)⟩)
    | false => none
   | _, _ => none
  | _ => none
 | _ => none
section
variable {P:Program} {tt:Nat→Option TI} [TT P tt] {ro:Option Nat} {N:Nat} {l rest:List Oper} {Q:Exit→Act→World→Prop} {E:List (Nat × Value)} {ds:List Deferred} {b:World} {F F0 G:List SP} {fl:Oper→Bool} {kk:Nat}
 {d:Nat} {op:Op} {ty:TypeId} {pos:String} {aft:Array Edge} {g:Option (Nat × Bool)} {v:Value}
theorem rM {c:Prop} (h:Sg tt E op=some (c,v)) (hc:c):Pu P E op ty v:=by
 apply uj (tt:=tt);unfold Sg at h
 split at h
 ·rename_i t parts
  split at h
  ·rename_i n s1 s2 zs fs h1
   split at h
   ·rename_i pl vs h2 h3
    split at h
    ·rename_i h4
     simp only [apx,aqn] at h;obtain ⟨rfl,rfl⟩:=h;obtain ⟨f1,f2⟩:=wE (zs:=zs) h4 Z;have:=wF f1 hc;rw [f2,atb] at this;simp only [Mo,h1,h2,h3,this]
    ·cases h
   ·cases h
  ·cases h
 ·cases h
theorem Ez {c:Prop} (hg:cl l E g=some true) (hx:Sg tt E op=some (c,v)) (hd:Nat.blt d N=true) (hc:c) (h:SO P ro N l rest Q ((d,v)::E) ds b F):SO P ro N l (⟨some d,op,ty,pos,aft,g⟩::rest) Q E ds b F:=j6 hg (rM hx hc) hd h
theorem mJ {c:Prop} (hg:cl l E g=some true) (hx:Sg tt E op=some (c,v)) (hf:fl ⟨some d,op,ty,pos,aft,g⟩=true) (hd:Nat.blt d N=true) (hc:c) (h:SD P fl ro N F0 l (kk+1) rest Q ((d,v)::E) ds b F):SD P fl ro N F0 l kk (⟨some d,op,ty,pos,aft,g⟩::rest) Q E ds b F:=dU hg (rM hx hc) hf hd h
end
end Go.Eng
namespace Go.Eng
open Go Go.RowKit

def exP {S:Type} (p:S→Prop) (G:S→List SP):SP:=fun h=>∃ s,p s∧kC (G s) h
section
variable {S:Type} {p:S→Prop} {G:S→List SP} {F:List SP} {b:World}
theorem Ay {w:World} (H:Sat b (exP p G::F) w):∃ s,p s∧Sat b (G s++F) w:=by
 obtain ⟨K,a,b',c⟩:=H.mem;obtain ⟨s,hs,hS⟩:=c 0 _ Z;refine ⟨s,hs,H.os,H.tape,H.output,k9 _ ⟨K,a,b',fun i A hA=> ?_⟩⟩;cases i with
 | zero => cases hA; exact hS
 | succ i => exact c (i + 1) A hA
theorem zw (s:S) (hs:p s):Ent (G s++F) (exP p G::F):=ee.trans (mo 0 Z (fun _ hh=>⟨s,hs,hh⟩) Z)
variable {P:Program} {f:FuncId} {args:List Value} {R R':Value→List SP→Prop}
theorem SC.out (h:SC P f args b F R) (hr:∀ v F',R v F'→∃ G,Ent F' G∧R' v G):SC P f args b F R':=fun w H=>(h w H).mono fun _ _ ⟨v,F',h1,h2,h3⟩=>by
 obtain ⟨G,hG,hR⟩:=hr v F' h2;exact ⟨v,G,h1,hR,h3.ent hG⟩
theorem SC.know {q:Prop} (hq:∀ w,Sat b F w→q) (h:q→SC P f args b F R):SC P f args b F R:=fun w H=>h (hq w H) w H
end
section
variable {S:Type} {p:S→Prop} {G:S→List SP}
variable {P:Program} {ro:Option Nat} {N:Nat} {l rest:List Oper} {Q:Exit→Act→World→Prop} {E:List (Nat × Value)} {ds:List Deferred} {b:World} {F:List SP} {e:Exit} {c:Code}
theorem E3 (h:∀ s,p s→SW P ro N c Q E ds b (G s++F)):SW P ro N c Q E ds b (exP p G::F):=⟨fun w H=>by
 obtain ⟨s,hs,H'⟩:=Ay H;exact (h s hs).1 w H'⟩
theorem E4 (h:∀ s,p s→SN N Q e E ds b (G s++F)):SN N Q e E ds b (exP p G::F):=⟨fun w H=>by
 obtain ⟨s,hs,H'⟩:=Ay H;exact (h s hs).1 w H'⟩
end
end Go.Eng
namespace Go.Eng
open Go Go.RowKit

section
variable {P:Program} {tt:Nat→Option TI} [TT P tt] {ro:Option Nat} {N:Nat} {l rest:List Oper} {Q:Exit→Act→World→Prop} {E:List (Nat × Value)} {ds:List Deferred} {b:World} {F F0:List SP} {fl:Oper→Bool} {kk:Nat}
 {d:Nat} {op:Op} {ty:TypeId} {pos:String} {aft:Array Edge} {g:Option (Nat × Bool)}
end
end Go.Eng
namespace Go.Eng
open Go Go.RowKit

def ob (g:Nat) (o:Obj):SP:=fun h=>h g=some o
section
variable {b w w':World} {F G:List SP} {k g:Nat} {o o':Obj} {A:SP}
theorem Sat.ob (H:Sat b F w) (hk:nth F k=some (ob g o)):w.heap[g]? = some o:=by
 obtain ⟨h1,l,hA⟩:=H.mem.get hk;exact l g o hA
theorem Sat.newOb (H:Sat b F w) (o:Obj):Sat b (Go.Eng.ob w.heap.size o::F) (w.alloc o) :=
 H.new (Fr.alloc w o) (wm (h:=ph _) (heap_alloc_new w o)) (fun i hi=>by rw [wn hi];exact aqp _) (wo _ _)
theorem Sat.putPi {B:SP} (H:Sat b F w) (hk:nth F k=some A) (hA:∀ h,A h→h g≠none) (hB:∀ h,h g=some o'→B h) (hG:jf F k B=some G):Sat b G (w.putObj g o'):=by
 refine H.upd k hk (Fr.putObj w g o') (fun h1 l hh=> ?_) hG;have hg:=hA h1 hh;have hlt:g<w.heap.size:=by
  cases hx:h1 g with
  | none => exact absurd hx hg
  | some o => exact iP (l g o hx)
 exact ⟨fun i _ hi=>by subst hi;exact hg,_,wm (h:=ph (w.putObj g o')) (World.putObj_heap_same hlt),hB _ (wo g _),fun i hi=> .inl (by rw [wn hi];exact hg)⟩
theorem Sat.putOb (H:Sat b F w) (hk:nth F k=some (Go.Eng.ob g o)) (hG:jf F k (Go.Eng.ob g o')=some G):Sat b G (w.putObj g o') :=
 H.putPi hk (fun h hh=>by rw [show h g=_ from hh];simp) (fun h hh=>hh) hG
theorem J4 (k:Nat) (hk:nth F k=some A):∃ F',Ent F (A::F')∧∀ B G,jf F k B=some G→Ent (B::F') G:=by
 have hs:∀ (F:List SP) k A,nth F k=some A→∃ F',jf F k (fun _=>True)=some F':=by
  intro F
  induction F with
  | nil => intro k A h; cases h
  | cons x F ih =>
   intro k A h;cases k with
   | zero => exact ⟨_, rfl⟩
   | succ k => obtain ⟨F', hF'⟩ := ih k A h; exact ⟨x :: F', by simp only [jf, hF']⟩
 obtain ⟨F',hF'⟩:=hs F k A hk;refine ⟨F',?_,?_⟩
 ·rintro m ⟨H,a,b',c⟩;refine ⟨fun j=>match j with | 0=>H k | j+1=>if j=k then fun _=>none else H j,fun i=> ?_,fun i j hij=> ?_,fun i C hC=> ?_⟩
  ·cases i with
   | zero => exact a k
   | succ i =>
    dsimp only
    split
    ·intro _ _ e;cases e
    ·exact a i
  ·have key:∀ j,apt (H k) ((fun j=>if j=k then (fun _=>none:PH) else H j) j):=by
    intro j;dsimp only;split
    ·exact fun _=> .inr Z
    ·rename_i hne;exact b' k j (Ne.symm hne)
   cases i with
   | zero => cases j with
    | zero => exact absurd Z hij
    | succ j => exact key j
   | succ i => cases j with
    | zero => exact (key i).symm
    | succ j =>
     dsimp only;split
     ·exact fun _=> .inl Z
     ·split
      ·exact fun _=> .inr Z
      ·exact b' i j (by omega)
  ·cases i with
   | zero => simp only [nth, apx] at hC; subst hC; exact c k A hk
   | succ i =>
    simp only [nth] at hC;rw [dQ hF'] at hC;dsimp only;split at hC
    ·cases hC;trivial
    ·rename_i hne;rw [if_neg hne];exact c i C hC
 ·intro B G hG;rintro m ⟨H,a,b',c⟩;refine ⟨fun j=>if j=k then H 0 else H (j+1),fun i=> ?_,fun i j hij=> ?_,fun i C hC=> ?_⟩
  ·dsimp only;split <;> exact a _
  ·dsimp only;split
   ·rename_i e1;split
    ·rename_i e2;exact absurd (e1.trans e2.symm) hij
    ·exact b' _ _ (by omega)
   ·split
    ·exact b' _ _ (by omega)
    ·exact b' _ _ (by omega)
  ·rw [dQ hG] at hC;dsimp only;split at hC
   ·rename_i e1;cases hC;rw [if_pos e1];exact c 0 _ Z
   ·rename_i e1;rw [if_neg e1]
    exact c (i+1) _ (by simp only [nth];rw [dQ hF',if_neg e1];exact hC)
end

section
variable {P:Program} {tt:Nat→Option TI} [TT P tt] {ro:Option Nat} {N:Nat} {l rest:List Oper} {Q:Exit→Act→World→Prop} {E:List (Nat × Value)} {ds:List Deferred} {b:World} {F G:List SP}
 {d:Nat} {op:Op} {ty:TypeId} {pos:String} {aft:Array Edge} {g:Option (Nat × Bool)} {v:Value}
theorem mK {t:Nat} {x:Operand} {s:ByteArray} {i:TI} (hg:cl l E g=some true) (hop:op = .range t x) (ht:tt t=some i) (hi:i.desc = .string) (hx:ev E x=some (.string s)) (hd:Nat.blt d N=true)
  (h:∀ g',SO P ro N l rest Q ((d,.pointer (some ⟨g',0,none⟩))::E) ds b (ob g' (.stringIter s 0)::F)):SO P ro N l (⟨some d,op,ty,pos,aft,g⟩::rest) Q E ds b F:=⟨fun w H=>by
 subst hop;refine fm hg ?_ hd ((h w.heap.size).1 _ (H.newOb _));intro ρ o hρ hop' _;simp [execOp,hop',Instr.range,hρ _ _ hx,TT.run_und (P:=P) ht (by rw [hi];rfl),hi]⟩
theorem rO {x:Operand} {s:ByteArray} {g' p:Nat} (k:Nat) (hg:cl l E g=some true) (hop:op = .next x true) (hx:ev E x=some (.pointer (some ⟨g',0,none⟩))) (hF:nth F k=some (ob g' (.stringIter s p))) (hd:Nat.blt d N=true) (hlt:p<s.size)
  (hG:jf F k (ob g' (.stringIter s (p+(Utf8.decode s p).2)))=some G)
  (h:SO P ro N l rest Q ((d,.tuple ⟨[.bool true,.int .i64 (p:Int),.int .i32 ((Utf8.decode s p).1:Int)]⟩)::E) ds b G):SO P ro N l (⟨some d,op,ty,pos,aft,g⟩::rest) Q E ds b F:=⟨fun w H=>by
 subst hop;have hh:=H.ob hF;refine fm hg ?_ hd (h.1 _ (H.putOb hF hG));intro ρ o hρ hop' _;simp [execOp,hop',Instr.next,hρ _ _ hx,getObj,setObj,Sem.run,hh,hlt,World.putObj,goInt]⟩
theorem mL {x:Operand} {s:ByteArray} {g' p:Nat} (k:Nat) (hg:cl l E g=some true) (hop:op = .next x true) (hx:ev E x=some (.pointer (some ⟨g',0,none⟩))) (hF:nth F k=some (ob g' (.stringIter s p))) (hd:Nat.blt d N=true) (hle:s.size≤p)
  (h:SO P ro N l rest Q ((d,.tuple ⟨[.bool false]⟩)::E) ds b F):SO P ro N l (⟨some d,op,ty,pos,aft,g⟩::rest) Q E ds b F:=⟨fun w H=>by
 subst hop;have hh:=H.ob hF;refine fm hg ?_ hd (h.1 _ H);intro ρ o hρ hop' _;simp [execOp,hop',Instr.next,hρ _ _ hx,getObj,Sem.run,hh,Nat.not_lt.2 hle]⟩
end

def pW (E:List (Nat × Value)):Op→Option Deferred
 | .defer { callee := .value f, args := xs, argTypes := _ } => match ev E f, evs E xs.toList with
  | some (.func k ⟨[]⟩ cs), some vs => some ⟨.fn k cs, ⟨vs⟩⟩
  | _, _ => none
 | _ => none
theorem J5 {P:Program} {E:List (Nat × Value)} {op:Op} {w:World} {d0:Deferred} (h:pW E op=some d0) (ρ:Operand→Value) (o:Oper)
  (hρ:∀ x u,ev E x=some u→ρ x=u) (ho:o.op=op):(execOp ρ o).run P w = .ok (.defer d0) w:=by
 unfold pW at h
 split at h
 ·rename_i fo xs at'
  split at h
  ·rename_i k cs vs' h1 h2
   simp only [apx] at h;subst h;have e1:=hρ _ _ h1;have e4:xs.map ρ=vs'.toArray:=by
    apply ast;simpa using jZ hρ _ _ h2
   simp [execOp,ho,resolve,e1,e4,Deferred.ofValue]
  ·cases h
 ·cases h
section
variable {P:Program} {tt:Nat→Option TI} [TT P tt] {N:Nat} {l rest:List Oper} {Q:Exit→Act→World→Prop} {E:List (Nat × Value)} {ds:List Deferred} {b w:World} {F G:List SP}
 {d:Nat} {op:Op} {ty:TypeId} {pos:String} {aft:Array Edge} {g:Option (Nat × Bool)} {v:Value}
theorem J6 {d0:Deferred} (hg:cl l E g=some true) (hx:pW E op=some d0) (h:OW P none N l rest Q E (d0::ds) w) :
  OW P none N l (⟨none,op,ty,pos,aft,g⟩::rest) Q E ds w:=by
 intro a hk hds;unfold wpListIn;rw [kd (o:=⟨none,op,ty,pos,aft,g⟩) hk hg];simp only [ata];have hr:=J5 (P:=P) (w:=w) hx a.eval ⟨none,op,ty,pos,aft,g⟩ hk.hyp Z;refine ⟨fun f _=>iM none f,?_⟩;rw [show (Oper.semAt (FR none).round a.eval ⟨none,op,ty,pos,aft,g⟩)=execOp a.eval ⟨none,op,ty,pos,aft,g⟩ from rfl,hr,Oper.uponIn_defer];have hk1:Kn N E {a with defers:=d0::a.defers}:=⟨hk.1,hk.2⟩;exact h _ hk1.putNone (by simp [Act.put,hds])
theorem wG {d0:Deferred} (hg:cl l E g=some true) (hx:pW E op=some d0) (h:SO P none N l rest Q E (d0::ds) b F) :
  SO P none N l (⟨none,op,ty,pos,aft,g⟩::rest) Q E ds b F:=⟨fun w H=>J6 hg hx (h.1 w H)⟩
end
section
variable {P:Program} {tt:Nat→Option TI} [TT P tt] {N:Nat} {E:List (Nat × Value)} {b:World} {F G:List SP} {fn:Func} {R:Value→List SP→Prop} {f:FuncId} {c:Code} {args:List Value}
def SCD (P:Program) (f:FuncId) (args:List Value) (b:World) (F:List SP) (R:Value→List SP→Prop):Prop :=
 ∀ w,Sat b F w→∀ u,CallsDIn (FR none) 0 P f args.toArray u w fun e u' w'=>u'=u∧r6 b R e w'
theorem SCD.ent {R:Value→List SP→Prop} (h:SCD P f args b G R) (he:Ent F G):SCD P f args b F R:=fun w H=>h w (H.ent he)
theorem Hn (hf:P.funcs[f]? = some fn) (hb:fn.body=some c) (hn:Nat.ble args.length fn.ntmps=true) {E:List (Nat × Value)} (hE:uV 0 args=E) (h:SW P none fn.ntmps c (bodyPost P fn (r6 b R)) E [] b F):SCD P f args b F R:=by
 intro w H u;refine callsDIn_of_wp hf hb trivial ?_ Z;have hn:=aqb hn;subst hE;refine h.1 w H _ ⟨by simp;omega,fun i v hi=> ?_⟩ Z;obtain ⟨_,h2⟩:=fW _ _ _ _ hi;simp only [atq] at h2;have hlt:i<args.length:=(ap4.1 h2).1;rw [apv hlt] at h2;simp only [apx] at h2;simp [Array.getElem?_append,hlt,h2]
theorem yt (hf:P.funcs[f]? = some fn) (hb:fn.body=some c) (hn:Nat.ble args.length fn.ntmps=true) {E:List (Nat × Value)} (hE:uV 0 args=E) (h:SW P none fn.ntmps c (bodyPostM (FR none) 0 P fn (r6 b R)) E [] b F):SC P f args b F R :=
 fun w H=>Mn hf hb hn (by rw [hE];exact h.1 w H)
theorem jD {rs:List ResultVar} {vs:List Value} {a:Act} {w:World} (hr:fn.results=⟨rs⟩) (hv:Res tt E F rs vs) (he:Ent F G) (h:R (pA vs) G) (hk:Kn N E a) (H:Sat b F w):LeavesInM (FR none) 0 P fn a.tmps (r6 b R) [] .returning w:=by
 refine ⟨pA vs,?_,_,_,rfl,h,H.ent he⟩;have h2:=hv.run P H hk;have h3:(results fn a.tmps).run P w=(do let vs ← (⟨rs⟩:Array ResultVar).mapM (xR a.tmps);pure (if h:vs.size=1 then vs[0] else .tuple vs):Sem Value).run P w:=by
  simp only [results,hr]
  rfl
 rw [h3,List.mapM_toArray];simp only [Sem.run_bind,Sem.run_pure,Result.andThen,Sem.run_map,h2]
 match vs with
 | [] => rfl
 | [v] => rfl
 | _ :: _ :: _ => rfl
theorem xX {rs:List ResultVar} {f0:FuncId} {cap xs:List Value} {R1:Value→List SP→Prop} (hr:fn.results=⟨rs⟩) [hb:Bodied P f0] (hs:SCD P f0 (xs++cap) b F R1)
  (h:∀ v F',R1 v F'→∃ vs G,Res tt E F' rs vs∧Ent F' G∧R (pA vs) G):SN N (bodyPostM (FR none) 0 P fn (r6 b R)) .ret E [⟨.fn (.func f0) ⟨cap⟩,⟨xs⟩⟩] b F:=by
 constructor
 intro w H a hk hd;show LeavesInM (FR none) 0 P fn a.tmps (r6 b R) a.defers .returning w;rw [hd];refine ⟨by simp,.inr ⟨fun h=>by simp [Fence.wide] at h,_,_,f0,(xs++cap).toArray,rfl,?_,fun g _=>trivial,?_⟩⟩
 ·have:=hb.run (xs++cap).toArray w;simpa [invoke] using this
 ·refine (hs w H .returning).mono ?_;rintro e u' w' ⟨rfl,v,F',rfl,h1,h2⟩;obtain ⟨vs,G,h3,h4,h5⟩:=h v F' h1;exact jD hr h3 h4 h5 hk h2
theorem pX {rs:List ResultVar} {vs:List Value} {D k:Nat} {G0:List SP} (hr:fn.results=⟨rs⟩) (hD:nth F k=some (ob D (.deferred (some [])))) (hG:jf F k (ob D (.deferred none))=some G0) (hv:Res tt E G0 rs vs) (he:Ent G0 G) (h:R (pA vs) G) :
  SN N (bodyPostM (FR none) 0 P fn (r6 b R)) .ret E [rh D] b F:=by
 constructor
 intro w H a hk hd;show LeavesInM (FR none) 0 P fn a.tmps (r6 b R) a.defers .returning w;rw [hd];exact ⟨by simp,.inl ⟨D,_,rfl,run_takeDeferred (H.ob hD),jD hr hv he h hk (H.putOb hD hG)⟩⟩
end

def lpP (m:Nat) (st:LoopState) (ps:Array Tmp) (asg body:Code) (N:Nat) (E:List (Nat × Value)):SP:=fun h=>∃ r:Loop,h m=some (.loop r)∧r.state=st∧r.pending=none∧r.params=ps∧r.assign=asg∧r.body=body∧Kn N E ⟨r.tmps,[]⟩
def xY (P:Program) (m:Nat) (b:World) (ok:List (List Value)→List Value→Prop) (J:List (List Value)→SP):Prop :=
 ∀ xs vs F w,ok xs vs→Sat b (J xs::F) w→Yld P m vs.toArray w fun e w'=>e = .returned (.bool true)∧Sat b (J (xs ++ [vs])::F) w'
section
variable {P:Program} {ro:Option Nat} {N:Nat} {l rest:List Oper} {Q:Exit→Act→World→Prop} {E:List (Nat × Value)} {ds:List Deferred} {b:World} {F G:List SP}
 {d:Nat} {op:Op} {ty:TypeId} {pos:String} {aft:Array Edge} {g:Option (Nat × Bool)} {v:Value}
 {ok:List (List Value)→List Value→Prop} {J:List (List Value)→SP}
theorem Nc {m:Nat} {vs:List Value} {xs:List (List Value)} (k:Nat) (hY:xY P m b ok J) (hg:cl l E g=some true) (hx:fX E op=some (m,vs)) (hd:Nat.blt d N=true) (hF:nth F k=some (J xs)) (hok:ok xs vs) (hG:jf F k (J (xs ++ [vs]))=some G)
  (h:SO P ro N l rest Q ((d,.bool true)::E) ds b G):SO P ro N l (⟨some d,op,ty,pos,aft,g⟩::rest) Q E ds b F:=⟨fun w H=>by
 obtain ⟨F',h1,h2⟩:=J4 k hF;exact zV hg hx hd ((hY xs vs F' w hok (H.ent h1)).mono fun e w' ⟨he,H'⟩=>⟨_,he,h.1 w' (H'.ent (h2 _ _ hG))⟩)⟩
variable {m:Nat} {ps:Array Tmp} {asg body:Code} {R:Ending→World→Prop}
theorem mM {E0:List (Nat × Value)} (h:SW P (some m) N body (roundPost P m R) E ds b (lpP m .busy ps asg body N E0::F)):SN N (Asg P m body R) .normal E ds b (lpP m .ready ps asg body N E0::F):=by
 constructor
 intro w H;obtain ⟨h1,l1,r,hr,hst,hp,h2,h3,h4,h5⟩:=H.mem.get (k:=0) Z;refine D6 (l1 m _ hr) hst (h.1 _ (H.putPi (k:=0) Z (fun h ⟨r',hr',_⟩=>by rw [hr'];simp) (fun h hh=>⟨_,hh,rfl,hp,h2,h3,h4,h5⟩) Z))
theorem r8 {E0:List (Nat × Value)} (h:∀ w,Sat b (lpP m .ready ps asg body N E0::F) w→R (.returned (.bool true)) w):SN N (roundPost P m R) .normal E ds b (lpP m .busy ps asg body N E0::F):=by
 constructor
 intro w H;obtain ⟨h1,l1,r,hr,hst,hp,h2,h3,h4,h5⟩:=H.mem.get (k:=0) Z;exact dN (l1 m _ hr) (h _ (H.putPi (k:=0) Z (fun h ⟨r',hr',_⟩=>by rw [hr'];simp) (fun h hh=>⟨_,hh,rfl,rfl,h2,h3,h4,h5⟩) Z))
end
section
variable {P:Program} {N:Nat} {Q:Exit→Act→World→Prop} {E:List (Nat × Value)} {ds:List Deferred} {b:World} {F:List SP}
theorem xZ {go:Operand} {ps:Array Tmp} {asg body:Code} {gf:FuncId} {caps:List Value} (hg:ev E go=some (.func (.func gf) ⟨[]⟩ ⟨caps⟩)) [Bodied P gf] (ok:List (List Value)→List Value→Prop) (Fg:List (List Value)→List SP) (F1:List SP) (T:List (List Value)→List SP→Prop)
  (he:Ent F (Fg []++F1)) (hps:ps.toList.all (fun p=>Nat.blt p N)=true) (hok:∀ xs vs,ok xs vs→vs.length=ps.size)
  (hb:∀ m D xs vs F0 R,ok xs vs→(∀ w,Sat b (lpP m .ready ps asg body N E::ob D (.deferred (some []))::(Fg (xs ++ [vs])++F0)) w→R (.returned (.bool true)) w) →
   SW P (some m) N asg (Asg P m body R) (zW ps.toList vs E) [] b (lpP m .ready ps asg body N E::ob D (.deferred (some []))::(Fg xs++F0)))
  (hgf:∀ m J,xY P m b ok J→SC P gf (.func (.yield m) ⟨[]⟩ ⟨[]⟩::caps) b (J []::F1) (fun _ F'=>∃ xs F2,F'=J xs::F2∧T xs F2))
  (h:∀ D xs F2,T xs F2→SN N Q .normal E (rh D::ds) b (ob D (.deferred (some []))::(Fg xs++F2))):SW P none N (.rangeFunc go ps asg body) Q E ds b F:=by
 constructor
 intro w H;refine wy hg ?_;intro r h1 h2 h3 h4 h5 h6 h7
 let m:=w.heap.size+1
 let D:=w.heap.size
 let J:List (List Value)→SP:=fun xs=>all (lpP m .ready ps asg body N E::ob D (.deferred (some []))::Fg xs)
 have hY:xY P m b ok J:=by
  intro xs vs F0 w1 ho H1;have H2:Sat b (lpP m .ready ps asg body N E::ob D (.deferred (some []))::(Fg xs++F0)) w1:=H1.ent k9;obtain ⟨hh,l1,r1,hr1,e1,e2,e3,e4,e5,e6⟩:=H2.mem.get (k:=0) Z;refine kB (N:=N) (E:=E) (l1 m _ hr1) (by rw [e3];exact hok _ _ ho) (fun p hp=> ?_) e6 ?_
  ·rw [e3] at hp;have:=aqm.1 hps p hp;exact aqb this
  ·rw [e3,e4,e5];exact (hb m D xs vs F0 _ ho (fun w2 H3=>⟨rfl,H3.ent (ee (G:=_::_::Fg (xs ++ [vs])))⟩)).1 w1 H2
 have H0:Sat b (J []::F1) ((w.alloc (.deferred (some []))).alloc (.loop r)):=by
  have a1:=(H.ent he).newOb (.deferred (some []));have a2:=a1.newOb (.loop r);have a3:Sat b (lpP m .ready ps asg body N E::ob D (.deferred (some []))::(Fg []++F1)) ((w.alloc (.deferred (some []))).alloc (.loop r)) :=
   a2.ent (mo 0 Z (fun hh hx=>⟨r,by simpa [m,ob] using hx,h1,h2,h3,h4,h5,h7⟩) Z)
  exact a3.ent (ee (G:=_::_::Fg []))
 refine (hgf m J hY _ H0).mono ?_;rintro e w3 ⟨v,F',rfl,⟨xs,F2,rfl,hT⟩,H3⟩;have H4:Sat b (lpP m .ready ps asg body N E::ob D (.deferred (some []))::(Fg xs++F2)) w3:=H3.ent k9;obtain ⟨hh,l1,r1,hr1,e1,e2,e3,e4,e5,e6⟩:=H4.mem.get (k:=0) Z;refine ⟨⟨v,rfl⟩,r1,l1 m _ hr1,by rw [e1];simp,?_⟩;rw [e2];have H5:Sat b (lpP m .exhausted ps asg body N E::ob D (.deferred (some []))::(Fg xs++F2)) (w3.putObj m (.loop {r1 with state:= .exhausted})) :=
  H4.putPi (k:=0) Z (fun h ⟨r',hr',_⟩=>by rw [hr'];simp) (fun h hh=>⟨_,hh,rfl,e2,e3,e4,e5,e6⟩) Z
 rw [e2] at H5;exact (h D xs F2 hT).1 _ (H5.ent (zq 1 [] Z Z))
end
end Go.Eng
namespace Go.Eng
open Go Go.RowKit

section
variable {P:Program} {tt:Nat→Option TI} [TT P tt] {ro:Option Nat} {N:Nat} {l rest:List Oper} {Q:Exit→Act→World→Prop} {E:List (Nat × Value)} {ds:List Deferred} {b:World} {F F0 G:List SP} {fl:Oper→Bool} {kk:Nat}
 {d:Nat} {op:Op} {ty:TypeId} {pos:String} {aft:Array Edge} {g:Option (Nat × Bool)} {v:Value}
theorem Nd {t e n m sz s1 s2 g' off cap:Nat} {z1:Value} {f1:List (Nat × Nat)} {i:TI} {x y:Operand} {vx:Value} {cur news:List Value} (k:Nat)
  (ht:tt t=some ⟨.slice e,s1,s2,z1,f1⟩) (he:tt e=some i) (hi:Nat.beq i.size sz=true) (hx:ev E x=some (.slice (some ⟨g',off,none⟩) n cap)) (hy:ev E y=some vx) (hF:nth F k=some (pt g' e cur))
  (hsl:∀ w,Sat b F w→SL w sz vx m news) (h1:∀ u∈news,u.oneCell'=true) (hroom:n+m≤cap) (hfit:off+cap*sz≤cur.length) (hG:jf F k (pt g' e (spl cur (off+n*sz) news))=some G) :
  ∀ w,Sat b F w→∃ w',Ex P E (.call ⟨.builtin .append,⟨[x,y]⟩,⟨[t,t]⟩⟩) ty w (.slice (some ⟨g',off,none⟩) (n+m) cap) w'∧Sat b G w':=by
 have e2:=aqd hi;subst e2;intro w H;have B:=H.blk hF;obtain ⟨j,hj,h2,h3,h4⟩:=TT.info (P:=P) e i he;have hu:=TT.und (P:=P) t _ ht Z;have key:∃ w',(Builtin.append_ #[t,t] ty #[.slice (some ⟨g',off,none⟩) n cap,vx]).run P w = .ok (.slice (some ⟨g',off,none⟩) (n+m) cap) w'∧Sat b G w':=by
  obtain ⟨A,c,rfl,hl,hc,hm,hz0,hcell⟩:=hsl w H;have hnc:n≤cap:=by omega
  cases A with
  | none =>
   have hm0:m=0:=by have:=hz0 Z;omega
   subst hm0;have hn:news = []:=aql (by simpa using hl);subst hn;refine ⟨w,by simp [Builtin.append_,run_underlying hu,sizeOf,typeInfo,hj,Builtin.lenOf,Builtin.firstCells,hnc,storeCells],?_⟩;have:spl cur (off+n*i.size) []=cur:=by simp [spl]
   rw [this] at hG;exact H.ent (mo k hF (fun _ h=>h) hG)
  | some a =>
   have hnews:∀ k u,news[k]? = some u→w.cell? (a.add k)=some u:=by
    intro k u hk;have hlt:k<news.length:=(ap4.1 hk).1;have hm0:0<m:=by
     rcases aq4 m with h0 | h0
     ·subst h0;simp at hl;subst hl;simp at hlt
     ·exact h0
    obtain ⟨b,off',hab,hb,hcc⟩:=hcell hm0;cases hab;have ha:(⟨b,off',none⟩:Addr).add k=⟨b,off'+k,none⟩:=by unfold Addr.add;split <;> simp_all
    rw [ha,hcc k hlt,hk]
   have hfit2:off+n*i.size+0+news.length≤cur.toArray.size:=by
    have:(n+m)*i.size≤cap*i.size:=ara _ hroom;rw [ass] at this;rw [ar7,hl];omega
   have hf:=run_firstCells_some (P:=P) w i.size m a m c news hl hnews;have hst:=run_storeCells_at P g' (off+n*i.size) e news 0 cur.toArray w B hfit2 h1;simp only [as8] at hst;have ha:(⟨g',off,none⟩:Addr).add (n*i.size)=⟨g',off+n*i.size,none⟩:=by unfold Addr.add;split <;> simp_all
   refine ⟨w.setRow g' (spl cur (off+n*i.size) news).toArray,?_,H.write hF (Fr.setRow _ _ _) B.setRow hG⟩;have hn':¬ (cap<n+m):=by omega
   have e3:(cur.toArray.toList.take (off+n*i.size)++news++cur.toArray.toList.drop (off+n*i.size+news.length))=spl cur (off+n*i.size) news:=by simp [spl]
   rw [e3] at hst;simp [Builtin.append_,run_underlying hu,sizeOf,typeInfo,hj,h2,Builtin.lenOf,hroom,hf,ha,hst]
 obtain ⟨w',hrun,hS⟩:=key;refine ⟨w',?_,hS⟩;intro ρ o hρ hop' hty;subst hty;simp only [execOp,hop',resolve,invoke,builtin,Sem.run_bind,Sem.run_pure,Result.andThen];have e1:Array.map ρ #[x,y] = #[.slice (some ⟨g',off,none⟩) n cap,vx]:=by simp [hρ _ _ hx,hρ _ _ hy]
 simp only [e1,hrun]
theorem Nf {t e n m sz s1 s2 g' off cap:Nat} {z1:Value} {f1:List (Nat × Nat)} {i:TI} {x y:Operand} {vx:Value} {cur news:List Value} (k:Nat) (hg:cl l E g=some true) (hf:fl ⟨some d,op,ty,pos,aft,g⟩=false) (hd:Nat.blt d N=true) (hop:op = .call ⟨.builtin .append,⟨[x,y]⟩,⟨[t,t]⟩⟩)
  (ht:tt t=some ⟨.slice e,s1,s2,z1,f1⟩) (he:tt e=some i) (hi:Nat.beq i.size sz=true) (hx:ev E x=some (.slice (some ⟨g',off,none⟩) n cap)) (hy:ev E y=some vx) (hF:nth F k=some (pt g' e cur)) (hG:jf F k (pt g' e (spl cur (off+n*sz) news))=some G)
  (hsl:∀ w,Sat b F w→SL w sz vx m news) (h1:∀ u∈news,u.oneCell'=true) (hroom:n+m≤cap) (hfit:off+cap*sz≤cur.length) (hE:Ent G F0)
  (h:SD P fl ro N F0 l (kk+1) rest Q ((d,.slice (some ⟨g',off,none⟩) (n+m) cap)::E) ds b G):SD P fl ro N F0 l kk (⟨some d,op,ty,pos,aft,g⟩::rest) Q E ds b F:=by
 subst hop
 constructor
 intro w H;obtain ⟨w',h2,h3⟩:=Nd (P:=P) (ty:=ty) k ht he hi hx hy hF hsl h1 hroom hfit hG w H;exact nY hg hf h2 (h3.ent hE) hd (h.1 w' h3)
theorem Y2 {t e n c s1 s2:Nat} {z1:Value} {f1:List (Nat × Nat)} {i:TI} {x lo hi mx:Operand} {a:Option Addr} {k1 k2 k3:IntKind} {l' h' m:Int} (hg:cl l E g=some true) (hop:op = .slice t x (some lo) (some hi) (some mx)) (ht:tt t=some ⟨.slice e,s1,s2,z1,f1⟩) (he:tt e=some i)
  (hx:ev E x=some (.slice a n c)) (hl:ev E lo=some (.int k1 l')) (hh:ev E hi=some (.int k2 h')) (hm:ev E mx=some (.int k3 m)) (hd:Nat.blt d N=true) (h1:0≤m∧m≤c) (h2:0≤h'∧h'≤m) (h3:0≤l'∧l'≤h')
  (h:∀ v,SO P ro N l rest Q ((d,v)::E) ds b F):SO P ro N l (⟨some d,op,ty,pos,aft,g⟩::rest) Q E ds b F:=by
 subst hop;refine fc hg (v:= .slice (if m.toNat=l'.toNat then a else a.map (·.add (l'.toNat*i.size))) (h'.toNat - l'.toNat) (m.toNat - l'.toNat)) (fun w _=> ?_) hd (h _);intro ρ o hρ ho _;have b2:∀ q,(Instr.sliceBound (.int k2 h') m.toNat q).run P w = .ok h'.toNat w:=fun q=>k8 ⟨h2.1,by rw [atv h1.1];exact h2.2⟩
 have b3:∀ q,(Instr.sliceBound (.int k1 l') h'.toNat q).run P w = .ok l'.toNat w:=fun q=>k8 ⟨h3.1,by rw [atv h2.1];exact h3.2⟩
 simp [execOp,ho,hρ _ _ hx,hρ _ _ hl,hρ _ _ hh,hρ _ _ hm,Instr.sliceAt,Instr.slice,Instr.sliceBounds,TT.run_und (P:=P) ht rfl,TT.run_size (P:=P) he,b2,b3,k8 (P:=P) (w:=w) (k:=k3) (y:=c) h1]
end
section
variable {b:World} {F G:List SP} {e sz n g off cap:Nat} {cs:List Value}
theorem Ng (k:Nat) (hk:nth F k=some (row e sz (.slice (some ⟨g,off,none⟩) n cap) n cs)) (hG:∀ cur,∃ G,jf F k (pt g e cur)=some G) {w:World} (H:Sat b F w) :
  ∃ cur G,jf F k (pt g e cur)=some G∧Sat b G w∧cs.length=n*sz∧n≤cap∧cap≤maxLen∧off+cap*sz≤cur.length∧(cur.drop off).take (n*sz)=cs:=by
 obtain ⟨h1,l,hA⟩:=H.mem.get hk;obtain ⟨hl,⟨hv,_⟩ | ⟨g2,off2,cap2,cur,hv,hh,h2,h3,h4,h5⟩⟩:=hA
 ·cases hv
 simp only [Value.slice.injEq,apx,Addr.mk.injEq,true_and,atx] at hv;obtain ⟨⟨rfl,rfl⟩,rfl⟩:=hv;obtain ⟨G,hG'⟩:=hG cur.toList;refine ⟨cur.toList,G,hG',?_,hl,h2,h3,by rw [aqx];exact h4,h5⟩;have hw:=l _ _ hh;refine H.upd k hk (Fr.refl (fun _=>False) w) (fun h4 l4 _=>⟨fun _ _ hi=>hi.elim,_,wm (h:=ph w) (by simpa [ph] using hw),?_,fun i hi=> .inl ?_⟩) hG'
 ·show _=_;simpa using wo g (Obj.cells cur e (0,0))
 ·rw [wn hi]
  rename_i hA4
  obtain ⟨_,⟨hv,_⟩ | ⟨g3,_,_,cur3,hv,hh3,_⟩⟩:=hA4
  ·cases hv
  ·simp only [Value.slice.injEq,apx,Addr.mk.injEq] at hv;obtain ⟨⟨rfl,_⟩,_⟩:=hv;rw [hh3];simp
theorem Y3 {P:Program} {ro:Option Nat} {N:Nat} {Q:Exit→Act→World→Prop} {E:List (Nat × Value)} {ds:List Deferred} {x:Code} {Gf:List Value→List SP} (k:Nat) (hk:nth F k=some (row e sz (.slice (some ⟨g,off,none⟩) n cap) n cs)) (hG:∀ cur,jf F k (pt g e cur)=some (Gf cur))
  (h:∀ cur,cs.length=n*sz→n≤cap→cap≤maxLen→off+cap*sz≤cur.length→(cur.drop off).take (n*sz)=cs→SW P ro N x Q E ds b (Gf cur)):SW P ro N x Q E ds b F:=⟨fun w H=>by
 obtain ⟨cur,G,hg,H1,f1,f2,f3,f4,f5⟩:=Ng k hk (fun cur=>⟨_,hG cur⟩) H;rw [hG] at hg;cases hg;exact (h cur f1 f2 f3 f4 f5).1 w H1⟩
theorem kI (k:Nat) {cur:List Value} {m:Nat} (hk:nth F k=some (pt g e cur)) (hG:jf F k (row e sz (.slice (some ⟨g,off,none⟩) m cap) m cs)=some G) (hl:cs.length=m*sz) (h2:m≤cap) (h3:cap≤maxLen) (h4:off+cap*sz≤cur.length) (h5:(cur.drop off).take (m*sz)=cs):Ent F G :=
 mo k hk (fun h hh=>⟨hl,.inr ⟨g,off,cap,cur.toArray,rfl,hh,h2,h3,by simpa using h4,by simpa using h5⟩⟩) hG
end
end Go.Eng
namespace Go.Eng
open Go Go.RowKit Go.WideMaps

def flC {α:Type} (f:α→List Value):List α→List Value
 | [] => []
 | a :: l => f a ++ flC f l
section
variable {α:Type} {f:α→List Value} {l:List α} {sz:Nat}
theorem l9 (h:∀ a∈l,(f a).length=sz):(flC f l).length=l.length*sz:=by
 induction l with
 | nil => simp [flC]
 | cons x l ih =>
  have h1:=h x aqe;have h2:=ih fun w hw=>h w (aqj _ hw)
  simp only [flC,aps,h1,h2,ap3,asi];omega
theorem yA (h:∀ a∈l,(f a).length=sz) {i:Nat} (hi:i<l.length) {j:Nat} (hj:j<sz):(flC f l)[i*sz+j]? = (f l[i])[j]?:=by
 induction l generalizing i with
 | nil => simp at hi
 | cons x l ih =>
  have h1:=h x aqe;cases i with
  | zero => simp only [flC, atu, aqy, arz]; exact aq6 (by omega)
  | succ i =>
   simp only [flC,List.getElem_cons_succ];rw [asj (by rw [h1,asi];omega),h1,asi,show i*sz+sz+j - sz=i*sz+j by omega];exact ih (fun w hw=>h w (aqj _ hw)) (by simpa using hi)
theorem kJ {w:World} {bk off n c j:Nat} {cs:List Value} (h:SL w sz (.slice (some ⟨bk,off,none⟩) n c) n cs) (hj:j<cs.length):w.cell? ⟨bk,off+j,none⟩=cs[j]?:=by
 obtain ⟨A,c',hv,hl,_,_,_,hc⟩:=h;cases hv;obtain ⟨b',o',hA,_,hcc⟩:=hc (by
  rcases aq4 n with h0 | h0
  ·subst h0;simp at hl;subst hl;simp at hj
  ·exact h0)
 cases hA;exact hcc j hj
theorem ej {w:World} {bk off c i j:Nat} (h:SL w sz (.slice (some ⟨bk,off,none⟩) l.length c) l.length (flC f l)) (hf:∀ a∈l,(f a).length=sz) (hi:i<l.length) (hj:j<sz):w.cell? ⟨bk,off+i*sz+j,none⟩=(f l[i])[j]?:=by
 rw [ar9,kJ h,yA hf hi hj];rw [l9 hf];have:(i+1)*sz≤l.length*sz:=ara _ hi;rw [asi] at this;omega
end
end Go.Eng
namespace Go.Eng
open Go Go.RowKit

section
variable {P:Program} {ro:Option Nat} {l:List Oper} {Q:Exit→Act→World→Prop} {S:World→Prop} {fl:Oper→Bool}
end
section
variable {P:Program} {ro:Option Nat} {l:List Oper} {Q:Exit→Act→World→Prop} {N:Nat} {E:List (Nat × Value)} {ds:List Deferred} {w:World} {b:World} {F:List SP} {fl:Oper→Bool}
end
end Go.Eng
namespace Go.Eng
open Go Go.RowKit

section
variable {P:Program} {tt:Nat→Option TI} [TT P tt] {N:Nat} {E:List (Nat × Value)} {b:World} {F G:List SP} {fn:Func} {R:Value→List SP→Prop}
end

section
variable {P:Program} {tt:Nat→Option TI} [TT P tt] {ro:Option Nat} {N:Nat} {l rest:List Oper} {Q:Exit→Act→World→Prop} {E:List (Nat × Value)} {ds:List Deferred} {b:World} {F G:List SP}
 {d:Nat} {op:Op} {ty:TypeId} {pos:String} {aft:Array Edge} {g:Option (Nat × Bool)} {v:Value}
theorem uW {zs:Array Value} (h:∀ u∈zs.toList,u.oneCell'=true) (n:Nat):∀ u∈(Builtin.zeroCells zs n).toList,u.oneCell'=true:=by
 intro u hu;unfold Builtin.zeroCells at hu;simp only [Array.toList_map,ap8,Array.mem_toList_iff,Array.mem_range] at hu;obtain ⟨i,hi,rfl⟩:=hu;have h0:0<zs.size:=by
  rcases aq4 zs.size with h0 | h0
  ·rw [h0,Nat.mul_zero] at hi;omega
  ·exact h0
 have hlt:=Nat.mod_lt i h0;rw [getElem!_pos zs _ hlt];exact h _ (by simp)
theorem Az {t e g' off n cap j sz c' s1 s2:Nat} {z1:Value} {f1:List (Nat × Nat)} {i:TI} {zs:List Value} {A':Option Addr} {x:Operand} {cs:List Value} (k:Nat) (ht:tt t=some ⟨.slice e,s1,s2,z1,f1⟩) (he:tt e=some i) (hz:sq i.zero=some zs) (hsz:Nat.beq zs.length sz=true) (hz1:zs.all (·.oneCell')=true)
  (hx:ev E x=some (.slice A' (n - j) c')) (hA:j<n→A'=some ⟨g',off+j*sz,none⟩) (hj:j≤n) (hF:nth F k=some (row e sz (.slice (some ⟨g',off,none⟩) n cap) n cs)) (hG:jf F k (row e sz (.slice (some ⟨g',off,none⟩) j cap) j (cs.take (j*sz)))=some G) :
  ∀ w,Sat b F w→∃ w' u,Ex P E (.call ⟨.builtin .clear,⟨[x]⟩,⟨[t]⟩⟩) ty w u w'∧Sat b G w':=fun w H=>by
 have hs:=aqd hsz;subst hs;have hzc:=vk hz;have hzs:i.zero.cells.size=zs.length:=by rw [← hzc,aqx]
 have hrun:∃ w' u,(Builtin.clear_ #[t] ty #[.slice A' (n - j) c']).run P w = .ok u w'∧Sat b G w':=by
  rcases asl j n with h | h
  ·obtain rfl:=hA h;obtain ⟨h1,l,hAA⟩:=H.mem.get hF;obtain ⟨hl,⟨hv,_⟩ | ⟨g2,off2,cap2,cur,hv,hh,h2,h3,h4,h5⟩⟩:=hAA
   ·cases hv
   simp only [Value.slice.injEq,apx,Addr.mk.injEq,true_and,atx] at hv;obtain ⟨⟨rfl,rfl⟩,rfl⟩:=hv;have hw:w.heap[g']? = some (.cells cur e (0,0)):=l _ _ hh;have hcl:n*zs.length≤cap*zs.length:=ara _ h2;have hjn:j*zs.length+(n - j)*zs.length=n*zs.length:=by rw [← ass];congr 1;omega
   have hzl:(Builtin.zeroCells i.zero.cells (n - j)).toList.length=(n - j)*zs.length:=by simp [Builtin.zeroCells,hzs]
   have hst:=run_storeCells_at P g' (off+j*zs.length) e (Builtin.zeroCells i.zero.cells (n - j)).toList 0 cur w hw (by omega) (uW (by rw [hzc];exact fun u hu=>aqm.1 hz1 u hu) _);simp only [as8] at hst;obtain ⟨m,hm⟩:∃ m,n - j=m+1:=⟨n - j - 1,by omega⟩;obtain ⟨rw1,hrw⟩:∃ R:List Value,R=cur.toList.take (off+j*zs.length)++(Builtin.zeroCells i.zero.cells (n - j)).toList++cur.toList.drop (off+j*zs.length+(Builtin.zeroCells i.zero.cells (n - j)).toList.length):=⟨_,rfl⟩;rw [← hrw] at hst;refine ⟨w.setRow g' rw1.toArray,.tuple #[],?_,H.upd (B:=row e zs.length (.slice (some ⟨g',off,none⟩) j cap) j (cs.take (j*zs.length))) k hF (Fr.setRow w g' _) (fun h4' l4 hA4=> ?_) hG⟩
   ·have hzr:=TT.run_zero (P:=P) he w;rw [hm] at hst ⊢;simp [Builtin.clear_,run_underlying (TT.und (P:=P) t _ ht Z),hzr,hst]
   ·have h4g:h4' g'=some (.cells cur e (0,0)):=by
     rcases hA4.2 with ⟨hv4,_⟩ | ⟨g5,off5,cap5,cur5,hv5,hh5,_⟩
     ·cases hv4
     ·simp only [Value.slice.injEq,apx,Addr.mk.injEq] at hv5;obtain ⟨⟨rfl,_⟩,_⟩:=hv5;have:=(l4 _ _ hh5).symm.trans hw;rw [hh5];exact this
    refine ⟨fun q _ hq=>by subst hq;rw [h4g];simp,_,wm (h:=ph _) (setRow_heap w g' cur _ e _ hw),⟨by rw [ap7,hl];exact asx (ara _ hj),.inr ⟨g',off,cap,_,rfl,wo g' _,by omega,h3,?_,?_⟩⟩,fun q hq=> .inl (by rw [wn hq,h4g];simp)⟩
    ·rw [hrw];simp only [ar7,aps,ap7,aqw,aqx];omega
    ·have hcur:cur.toList.length=cur.size:=aqx;rw [hrw];show ((cur.toList.take (off+j*zs.length)++_++_).drop off).take (j*zs.length)=_;rw [ap0,arm (by rw [ap7];omega),at1,arp,aru (by rw [ap7,aqw];omega),List.take_take,Nat.min_self,← h5,List.take_take];congr 1;omega
  ·have hjn:n - j=0:=by omega
   rw [hjn];refine ⟨w,.tuple #[],by cases A' <;> simp [Builtin.clear_,run_underlying (TT.und (P:=P) t _ ht Z)],?_⟩;exact H.ent (wz hj k hF hG)
 obtain ⟨w',u,h1,h2⟩:=hrun;refine ⟨w',u,?_,h2⟩;intro ρ o hρ ho hty;subst hty;simp only [execOp,ho,resolve,invoke,builtin,Sem.run_bind,Sem.run_pure,Result.andThen];have e1:Array.map ρ #[x] = #[.slice A' (n - j) c']:=by simp [hρ _ _ hx]
 simp only [e1,h1]
theorem yu {t e g' off n cap j sz c' s1 s2:Nat} {z1:Value} {f1:List (Nat × Nat)} {i:TI} {zs:List Value} {A':Option Addr} {x:Operand} {cs:List Value} (k:Nat) (hg:cl l E g=some true) (hop:op = .call ⟨.builtin .clear,⟨[x]⟩,⟨[t]⟩⟩) (ht:tt t=some ⟨.slice e,s1,s2,z1,f1⟩) (he:tt e=some i) (hz:sq i.zero=some zs) (hsz:Nat.beq zs.length sz=true) (hz1:zs.all (·.oneCell')=true)
  (hx:ev E x=some (.slice A' (n - j) c')) (hF:nth F k=some (row e sz (.slice (some ⟨g',off,none⟩) n cap) n cs)) (hG:jf F k (row e sz (.slice (some ⟨g',off,none⟩) j cap) j (cs.take (j*sz)))=some G) (hA:j<n→A'=some ⟨g',off+j*sz,none⟩) (hj:j≤n)
  (h:SO P ro N l rest Q E ds b G):SO P ro N l (⟨none,op,ty,pos,aft,g⟩::rest) Q E ds b F:=by
 subst hop;exact Ei hg (Az k ht he hz hsz hz1 hx hA hj hF hG) h
end

theorem J7 {P:Program} {tt:Nat→Option TI} [TT P tt] {w:World} {dT sT ty elem s1 s2 g o dLen dCap m:Nat} {z1:Value} {f1:List (Nat × Nat)} {i:TI} {cur:Array Value} {t:TypeId} {vx:Value} {news:List Value}
  (ht:tt dT=some ⟨.slice elem,s1,s2,z1,f1⟩) (he:tt elem=some i) (hi:Nat.beq i.size 1=true) (hg:w.heap[g]? = some (.cells cur t (0,0))) (hsl:SL w 1 vx m news) (hm:m≤dLen) (hfit:o+m≤cur.size) (h1:∀ u∈news,u.oneCell'=true) :
  (Builtin.copy_ #[dT,sT] ty #[.slice (some ⟨g,o,none⟩) dLen dCap,vx]).run P w = .ok (.int .i64 (m:Int)) (w.setRow g (spl cur.toList o news).toArray):=by
 obtain ⟨j,hj,h2,_,_⟩:=TT.info (P:=P) elem i he;have hu:=TT.und (P:=P) dT _ ht Z;have hs1:=aqd hi;obtain ⟨A,c,rfl,hl,hc,hmx,hz0,hcell⟩:=hsl;rw [aq8] at hl;have e9:∀ ns:List Value,cur.toList.take o++ns++cur.toList.drop (o+ns.length)=spl cur.toList o ns:=fun ns=>by simp [spl]
 cases A with
 | none =>
  have hm0:m=0:=by have:=hz0 Z;omega
  subst hm0;have hn:news = []:=aql hl;subst hn;obtain rfl:c=0:=hz0 Z;have hr:=run_copy_nil (P:=P) w dT sT ty elem ⟨g,o,none⟩ dLen dCap hu (by simp [hj]);rw [hr];have:spl cur.toList o []=cur.toList:=by simp [spl]
  rw [this,Array.toArray_toList,setRow_self w g cur t (0,0) hg]
  rfl
 | some a =>
  have hnews:∀ k u,news[k]? = some u→w.cell? (a.add k)=some u:=by
   intro k u hk;have hlt:k<news.length:=(ap4.1 hk).1;obtain ⟨b,off',hab,hb,hcc⟩:=hcell (by omega);cases hab;have ha:(⟨b,off',none⟩:Addr).add k=⟨b,off'+k,none⟩:=by unfold Addr.add;split <;> simp_all
   rw [ha,hcc k hlt,hk]
  have hr:=run_copy_row (P:=P) w dT sT ty elem g o dLen dCap a m c cur t news hu (by simp [hj,h2,hs1]) hg (by rw [hl];exact (asx hm).symm) hnews (by omega) h1;rw [hr,e9,hl]
  rfl
section
variable {P:Program} {tt:Nat→Option TI} [TT P tt] {ro:Option Nat} {N:Nat} {l rest:List Oper} {Q:Exit→Act→World→Prop} {E:List (Nat × Value)} {ds:List Deferred} {b:World} {F F0 G:List SP} {fl:Oper→Bool} {kk:Nat}
 {d:Nat} {op:Op} {ty:TypeId} {pos:String} {aft:Array Edge} {g:Option (Nat × Bool)} {v:Value}
theorem J8 {dT sT elem s1 s2 g' o dLen dCap m t0:Nat} {z1:Value} {f1:List (Nat × Nat)} {i:TI} {x y:Operand} {vx:Value} {cs news:List Value} (k:Nat) (ht:tt dT=some ⟨.slice elem,s1,s2,z1,f1⟩) (he:tt elem=some i) (hi:Nat.beq i.size 1=true)
  (hx:ev E x=some (.slice (some ⟨g',o,none⟩) dLen dCap)) (hy:ev E y=some vx) (hF:nth F k=some (pt g' t0 cs)) (hG:jf F k (pt g' t0 (spl cs o news))=some G) (hsl:∀ w,Sat b F w→SL w 1 vx m news) (hm:m≤dLen) (hfit:o+m≤cs.length) (h1:∀ u∈news,u.oneCell'=true) :
  ∀ w,Sat b F w→∃ w',Ex P E (.call ⟨.builtin .copy,⟨[x,y]⟩,⟨[dT,sT]⟩⟩) ty w (.int .i64 (m:Int)) w'∧Sat b G w':=fun w H=>by
 have B:=H.blk hF;have hr:=J7 (P:=P) (ty:=ty) (sT:=sT) (dCap:=dCap) ht he hi B (hsl w H) hm (by simpa using hfit) h1;refine ⟨_,?_,H.write hF (Fr.setRow _ _ _) B.setRow hG⟩;intro ρ q hρ ho hty;subst hty;simp only [execOp,ho,resolve,invoke,builtin,Sem.run_bind,Sem.run_pure,Result.andThen];have e1:Array.map ρ #[x,y] = #[.slice (some ⟨g',o,none⟩) dLen dCap,vx]:=by simp [hρ _ _ hx,hρ _ _ hy]
 simp only [e1,hr]
theorem Y4 (hg:cl l E g=some true) (hd:Nat.blt d N=true) (hx:∀ w,Sat b F w→∃ w',Ex P E op ty w v w'∧Sat b G w') (h:SO P ro N l rest Q ((d,v)::E) ds b G):SO P ro N l (⟨some d,op,ty,pos,aft,g⟩::rest) Q E ds b F:=⟨fun w H=>by
 obtain ⟨w',h2,h3⟩:=hx w H;exact fm hg h2 hd (h.1 w' h3)⟩
end
end Go.Eng
namespace Go.Eng
open Go Go.RowKit

section
variable {P:Program} {tt:Nat→Option TI} [TT P tt] {fl:Oper→Bool} {ro:Option Nat} {N d kk:Nat} {l rest:List Oper} {Q:Exit→Act→World→Prop} {E:List (Nat × Value)} {ds:List Deferred} {b:World} {F F0:List SP} {op:Op} {ty:TypeId} {pos:String} {aft:Array Edge} {g:Option (Nat × Bool)} {v u:Value}
end
end Go.Eng
namespace Go.Eng
open Go Go.RowKit

section
variable {P:Program} {ro:Option Nat} {l:List Oper} {Q Q':Exit→Act→World→Prop} {S:World→Prop} {fl:Oper→Bool}

end

section
variable {fl:Oper→Bool} {l:List Oper}
end

section
variable {P:Program} {fl:Oper→Bool} {ro:Option Nat} {N:Nat} {l:List Oper} {Q:Exit→Act→World→Prop} {E:List (Nat × Value)} {ds:List Deferred} {b:World} {F F0:List SP}
end
end Go.Eng
namespace Go.Eng
open Go Go.RowKit
section
variable {P:Program} {tt:Nat→Option TI} [hTT:TT P tt] {E:List (Nat × Value)} {v:Value} {ty:Nat} {ro:Option Nat} {N d:Nat} {pos:String} {aft:Array Edge} {g:Option (Nat × Bool)} {l rest:List Oper} {Q:Exit→Act→World→Prop} {ds:List Deferred} {b:World} {F F0:List SP} {op:Op} {fl:Oper→Bool} {kk:Nat}
def asV (hit:Bool) (v z:Value):Value:=match hit with
 | true => .tuple #[v, .bool true]
 | false => .tuple #[z, .bool false]
theorem Y5 {t0 t t':Nat} {i:TI} {x:Operand} (hx:ev E x=some (.iface t0 v)) (ht:tt t=some i) (hi:og i.desc=false):Pu P E (.typeAssert x t' t true) ty (asV (Nat.beq t0 t) v i.zero):=by
 intro w ρ o hρ ho _;have hu:∃ D,P.underlying t=some D∧og D=false:=by
  by_cases hs:dK i.desc=true
  ·obtain ⟨fs,h1,_⟩:=TT.st (P:=P) t i ht hs;exact ⟨_,h1,rfl⟩
  ·exact ⟨_,TT.und (P:=P) t i ht (by simpa using hs),hi⟩
 obtain ⟨D,h1,h2⟩:=hu;have hz:=TT.run_zero (P:=P) ht w;have hr:(Instr.typeAssert (.iface t0 v) t' t true).run P w = .ok (asV (Nat.beq t0 t) v i.zero) w:=by
  unfold Instr.typeAssert;simp only [Sem.run_bind,run_underlying h1,Result.andThen];cases hb:Nat.beq t0 t with
  | true =>
   have:=aqd hb;subst this;cases D <;> first | (simp [og] at h2;done) | simp [asV]
  | false =>
   have:=Nat.ne_of_beq_eq_false hb;cases D <;> first | (simp [og] at h2;done) | simp [asV,this,hz,Result.andThen]
 simp [execOp,ho,hρ _ _ hx,hr]
theorem od {t0 t t':Nat} {i:TI} {x:Operand} {q:Bool} (hg:cl l E g=some true) (hop:op = .typeAssert x t' t true) (hx:ev E x=some (.iface t0 v)) (ht:tt t=some i) (hi:og i.desc=false) (hq:Nat.beq t0 t=q) (hd:Nat.blt d N=true) (h:SO P ro N l rest Q ((d,asV q v i.zero)::E) ds b F) :
  SO P ro N l (⟨some d,op,ty,pos,aft,g⟩::rest) Q E ds b F:=by subst hop;subst hq;exact j6 hg (Y5 hx ht hi) hd h
end
end Go.Eng
namespace Go.Eng
open Go Go.RowKit
abbrev rP (s:ByteArray):List Value:=(dz s).map (Value.int .u8)
theorem Nh (s:ByteArray):(rP s).length=s.size:=by simp [rP,dz]
theorem Ni (s:ByteArray):∀ u∈rP s,u.oneCell'=true:=by intro u hu;obtain ⟨x,_,rfl⟩:=ap8.1 hu;rfl
theorem jE {P:Program} (w:World) (sz:Nat) (s:ByteArray):(Builtin.firstCells sz s.size (.string s)).run P w = .ok (rP s).toArray w:=by
 have e:(s.extract 0 s.size).data.map (fun b:UInt8=>Value.int IntKind.u8 (b.toNat:Int))=(rP s).toArray:=by
  apply ast;simp [rP,dz]
 simp only [Builtin.firstCells,Sem.run_pure,e]
theorem uY {P:Program} {tt:Nat→Option TI} [TT P tt] {w:World} {base t u ty e n:Nat} {i iu:TI} {s1 s2:Nat} {z1:Value} {f1:List (Nat × Nat)} (ht:tt t=some ⟨.slice e,s1,s2,z1,f1⟩) (hu:tt u=some iu) (hiu:iu.desc = .string) (he:tt e=some i) (hz:i.zero.cells.size=i.size) (hsz:i.size=1)
  {v:Value} {cs:List Value} {s:ByteArray} (hown:Oat w base e i.size v n cs)
  (h63:n+s.size≤maxLen) (hbytes:(n+s.size)*i.bytes≤140737488355328) (hbase:base≤w.heap.size) :
  ∃ v' w',(Builtin.append_ #[t,u] ty #[v,.string s]).run P w = .ok v' w'∧Oat w' base e i.size v' (n+s.size) (cs++rP s)∧Fr (fun k=>v.ownBlock=some k) w w'∧∀ k,v'.ownBlock=some k→v.ownBlock=some k∨w.heap.size≤k:=by
 have hl:=Nh s;have h1:=Ni s;have hf0:=fun w:World=>jE (P:=P) w i.size s
 obtain ⟨j,hj,h2,h3,h4⟩:=TT.info (P:=P) e i he;have hut:=TT.und (P:=P) t _ ht Z;have huu:P.underlying u=some .string:=by rw [← hiu];exact TT.und (P:=P) u iu hu (by rw [hiu];rfl)
 have hlen:(cs++rP s).length=(n+s.size)*i.size:=by rw [aps,hown.1,hl,hsz];omega
 generalize rP s=news at *;generalize hm:s.size=m at *;have hsmall:n+m≤9223372036854775807:=by simp only [maxLen] at h63;omega
 rcases hown.2 with ⟨rfl,rfl⟩ | ⟨g,off,cap,cur,rfl,hbg,hh,hnc,hcm,hcs,htake⟩
 ·have hcs:cs = []:=aql (by simpa using hown.1);subst hcs;rcases aq4 m with h0 | h0
  ·subst h0;have hn:news = []:=aql hl;subst hn;refine ⟨_,w,?_,by simpa using hown,Fr.refl _ w,fun _ hk=> .inl hk⟩;have hf:=hf0 w;simp [Builtin.append_,run_underlying hut,run_underlying huu,sizeOf,typeInfo,hj,Builtin.lenOf,hm,h2,hf]
  ·have hn':m≠0:=by omega
   have h63':¬ (9223372036854775807<(m:Int)):=by omega
   have h48':¬ (281474976710656<Builtin.nextslicecap m 0*j.bytes):=by rw [nextslicecap_zero h0,h3];simp only [aqy] at hbytes;omega
   have hf:=hf0 w.drew;have hfo:(Builtin.firstCells i.size 0 (.slice none 0 0)).run P w.drew = .ok #[] w.drew:=rfl;refine ⟨.slice (some ⟨w.heap.size,0,none⟩) (0+m) (grownCap w m 0 e),w.drew.alloc (.cells (news.toArray++Builtin.zeroCells i.zero.cells (grownCap w m 0 e - m)) e),?_,⟨hlen,.inr ⟨w.heap.size,0,_,_,rfl,hbase,heap_alloc_new w.drew _,?_,?_,?_,?_⟩⟩,(Fr.drew w).trans (Fr.alloc _ _),fun k hk=> .inr (by simp only [Value.ownBlock,apx] at hk;omega)⟩
   ·simp [Builtin.append_,run_underlying hut,run_underlying huu,sizeOf,typeInfo,zeroValue,hj,h4,Builtin.lenOf,hm,hn',h63',h48',Question.forced,newRow,grownCap,h2,hf,hfo]
   ·rw [aqy];exact grownCap_ge w m 0 e
   ·exact grownCap_le_maxLen w m 0 e (by omega)
   ·have hge:=grownCap_ge w m 0 e;simp only [Array.size_append,ar7,size_zeroCells,hz,hl,hsz];omega
   ·have e9:(0+m)*i.size=news.length:=by rw [hl,hsz];omega
    rw [e9];simp
 ·have hnews:=trivial;by_cases hroom:n+m≤cap
  ·have hfit:off+n*i.size+0+news.length≤cur.size:=by rw [hsz] at hcs ⊢;omega
   have hf:=hf0 w;have hst:=run_storeCells_at P g (off+n*i.size) e news 0 cur w hh hfit h1;simp only [as8] at hst;have ha:(⟨g,off,none⟩:Addr).add (n*i.size)=⟨g,off+n*i.size,none⟩:=by unfold Addr.add;split <;> simp_all
   obtain ⟨row,hrow⟩:∃ row:List Value,row=cur.toList.take (off+n*i.size)++news++cur.toList.drop (off+n*i.size+news.length):=⟨_,rfl⟩;rw [← hrow] at hst;refine ⟨.slice (some ⟨g,off,none⟩) (n+m) cap,w.setRow g row.toArray,?_,⟨hlen,.inr ⟨g,off,cap,row.toArray,rfl,hbg,setRow_heap w g cur _ e _ hh,hroom,hcm,?_,?_⟩⟩,(Fr.setRow w g _).mono fun k _ hk=>(by simp [Value.ownBlock,hk]),fun _ hk=> .inl hk⟩
   ·simp [Builtin.append_,run_underlying hut,run_underlying huu,sizeOf,typeInfo,hj,h2,Builtin.lenOf,hm,hroom,hf,ha,hst]
   ·subst hrow;simp only [ar7,aps,ap7,aqw,aqx];omega
   ·have e1:cur.toList.take (off+n*i.size)=cur.toList.take off++cs:=by
     rw [← htake,List.take_add]
    have hlo:(cur.toList.take off).length=off:=by
     rw [ap7,aqx];omega
    subst hrow;show ((cur.toList.take (off+n*i.size)++news++_).drop off).take _=_;rw [e1,ap0,ap0,arm (by omega),aq0 (by omega),arb,← ap0,← hlen];exact aty
  ·have holds:∀ k u,cs[k]? = some u→w.cell? ((⟨g,off,none⟩:Addr).add k)=some u:=by
    intro k u hk;have hlt:k<cs.length:=(ap4.1 hk).1;have ha:(⟨g,off,none⟩:Addr).add k=⟨g,off+k,none⟩:=by unfold Addr.add;split <;> simp_all
    rw [ha,cell_of_row w g (off+k) cur e (0,0) hh,← hk,← htake,arh,if_pos (by rw [← hown.1];exact hlt),arc];simp
   have h63':¬ (9223372036854775807<((n:Int)+(m:Int))):=by omega
   have h48':¬ (281474976710656<Builtin.nextslicecap (n+m) cap*j.bytes):=by have:=growslice_fits (need:=n+m) (old:=cap) (bytes:=j.bytes) (by omega) (by rw [h3];exact hbytes);omega
   have hf:=hf0 w.drew;have hfo:=run_firstCells_some (P:=P) w.drew i.size n (⟨g,off,none⟩:Addr) n cap cs hown.1 (by simpa using holds);refine ⟨.slice (some ⟨w.heap.size,0,none⟩) (n+m) (grownCap w (n+m) cap e),w.drew.alloc (.cells (cs.toArray++news.toArray++Builtin.zeroCells i.zero.cells (grownCap w (n+m) cap e - (n+m))) e),?_,⟨hlen,.inr ⟨w.heap.size,0,_,_,rfl,hbase,heap_alloc_new w.drew _,grownCap_ge w (n+m) cap e,grownCap_le_maxLen w (n+m) cap e h63,?_,?_⟩⟩,(Fr.drew w).trans (Fr.alloc _ _),fun k hk=> .inr (by simp only [Value.ownBlock,apx] at hk;omega)⟩
   ·simp [Builtin.append_,run_underlying hut,run_underlying huu,sizeOf,typeInfo,zeroValue,hj,h4,Builtin.lenOf,hm,hroom,h63',h48',Question.forced,h2,hf,hfo,newRow,grownCap];congr 2;apply ast;simp [ap0]
   ·have hge:=grownCap_ge w (n+m) cap e;simp only [Array.size_append,ar7,size_zeroCells,hz,hown.1,hl,hsz,aqy];omega
   ·simp only [Array.toList_append,ap0,atb];rw [← ap0,← hlen];exact aty
section
variable {P:Program} {tt:Nat→Option TI} [TT P tt] {ro:Option Nat} {N:Nat} {l rest:List Oper} {Q:Exit→Act→World→Prop} {E:List (Nat × Value)} {ds:List Deferred} {b:World} {F G:List SP}
 {d:Nat} {op:Op} {ty:TypeId} {pos:String} {aft:Array Edge} {g:Option (Nat × Bool)} {v:Value}
theorem J9 {t u e n s1 s2:Nat} {z1:Value} {f1:List (Nat × Nat)} {i iu:TI} {x y:Operand} {s:ByteArray} {cs:List Value} (k:Nat) (hg:cl l E g=some true) (hd:Nat.blt d N=true)
  (hop:op = .call ⟨.builtin .append,⟨[x,y]⟩,⟨[t,u]⟩⟩) (ht:tt t=some ⟨.slice e,s1,s2,z1,f1⟩) (hu:tt u=some iu) (hiu:iu.desc = .string) (he:tt e=some i) (hi:(Nat.beq i.zero.cells.size 1&&Nat.beq i.size 1&&Nat.ble i.bytes 2097152)=true)
  (hx:ev E x=some v) (hy:ev E y=some (.string s)) (hF:nth F k=some (row e 1 v n cs)) (hn:n+s.size≤67108864) {Gf:Value→List SP} (hG:∀ v',jf F k (row e 1 v' (n+s.size) (cs++rP s))=some (Gf v'))
  (h:∀ v',SO P ro N l rest Q ((d,v')::E) ds b (Gf v')):SO P ro N l (⟨some d,op,ty,pos,aft,g⟩::rest) Q E ds b F:=by
 simp only [aqi] at hi;obtain ⟨⟨h1',h2'⟩,h3'⟩:=hi;have e1:=aqd h1';have e2:=aqd h2';have e3:=aqb h3'
 constructor
 intro w H;subst hop;have hbytes:(n+s.size)*i.bytes≤140737488355328:=art (atp hn e3) (by decide);obtain ⟨v',w',hrun,ho,hf,hnb⟩:=uY (P:=P) (ty:=ty) ht hu hiu he (by rw [e1,e2]) e2 (s:=s) (by rw [e2];exact H.oat hF) (by unfold maxLen;omega) hbytes (aqc _);rw [e2] at ho;refine fm hg ?_ hd ((h v').1 w' ?_)
 ·intro ρ o hρ hop' hty;subst hty;simp only [execOp,hop',resolve,invoke,builtin,Sem.run_bind,Sem.run_pure,Result.andThen];have e1:Array.map ρ #[x,y] = #[v,.string s]:=by simp [hρ _ _ hx,hρ _ _ hy]
  simp only [e1,hrun]
 ·obtain ⟨h3,l3,hA,hn3⟩:=pV ho;refine H.upd k hF hf (fun h4 l4 hA4=> ?_) (hG v');have key:∀ q,v.ownBlock=some q→h4 q≠none:=by
   intro q hq;rcases hA4.2 with ⟨rfl,_⟩ | ⟨g5,off5,cap5,cur5,rfl,hh5,_⟩
   ·cases hq
   ·simp only [Value.ownBlock,apx] at hq;subst hq;rw [hh5];simp
  exact ⟨fun q _ hq=>key q hq,h3,l3,hA,fun q hq=>(hnb q (hn3 q hq).2).imp (key q) id⟩
theorem Y6 {fl:Oper→Bool} {kk:Nat} {F0:List SP} (hg:cl l E g=some true) (hf:fl ⟨some d,op,ty,pos,aft,g⟩=false) (hd:Nat.blt d N=true) (hx:∀ w,Sat b F w→∃ w',Ex P E op ty w v w'∧Sat b G w') (hE:Ent G F0) (h:SD P fl ro N F0 l (kk+1) rest Q ((d,v)::E) ds b G):SD P fl ro N F0 l kk (⟨some d,op,ty,pos,aft,g⟩::rest) Q E ds b F:=⟨fun w H=>by
 obtain ⟨w',h2,h3⟩:=hx w H;exact nY hg hf h2 (h3.ent hE) hd (h.1 _ h3)⟩
end
end Go.Eng
namespace Go.Eng
open Go Go.RowKit

section
variable {P:Program} {ro:Option Nat} {l:List Oper} {Q Q':Exit→Act→World→Prop} {S:World→Prop} {fl:Oper→Bool} {y:Nat} {oy:Oper}
end

section
variable {fl:Oper→Bool} {l:List Oper} {y:Nat} {oy:Oper}
end

section
variable {P:Program} {fl:Oper→Bool} {ro:Option Nat} {N:Nat} {l:List Oper} {Q Q':Exit→Act→World→Prop} {E:List (Nat × Value)} {ds:List Deferred} {b:World} {F F0:List SP} {y:Nat} {oy:Oper}
end
end Go.Eng
namespace Go.Eng
open Go Go.RowKit Go.MapKept
open Go.ChangeMaps (setBlock)

section
variable {P:Program} {tt:Nat→Option TI} [TT P tt] {ro:Option Nat} {N:Nat} {l rest:List Oper} {Q:Exit→Act→World→Prop} {E:List (Nat × Value)} {ds:List Deferred} {b:World} {F G:List SP}
 {op:Op} {ty:TypeId} {pos:String} {aft:Array Edge} {g:Option (Nat × Bool)} {v:Value}
 {α:Type} [DecidableEq α] {K:α→Value} {ok:α→Prop} {L:List (α × Value)} {a:α}
end
end Go.Eng
namespace Go.Eng
open Go Go.RowKit

section
variable {P:Program} {tt:Nat→Option TI} [TT P tt] {E:List (Nat × Value)} {ty:TypeId}
theorem Y7 {fs:Array Field} {fl:List (Nat × Nat)} (h:fs.toList.map (fun f=>(f.type,f.offset))=fl) {k ft fo:Nat} (hn:nth fl k=some (ft,fo)):∃ f:Field,fs[k]? = some f∧f.type=ft∧f.offset=fo:=by
 rw [np,← h,ar3] at hn;cases hf:fs.toList[k]? with
 | none => rw [hf] at hn; cases hn
 | some f =>
  rw [hf] at hn;simp only [aq5,apx,aqn] at hn;exact ⟨f,by rw [← Array.getElem?_toList];exact hf,hn.1,hn.2⟩
theorem E5 {t k ft fo:Nat} {i j:TI} {x:Operand} {cs:List Value} {v:Value} (ht:tt t=some i) (hs:dK i.desc=true) (hn:nth i.flds k=some (ft,fo)) (hft:tt ft=some j) (hagg:sh j.desc=false) (hx:ev E x=some (.agg ⟨cs⟩)) (hv:nth cs fo=some v):Pu P E (.field t x k) ty v:=by
 intro w ρ o hρ ho _;obtain ⟨fs,h1,h2⟩:=TT.run_st (P:=P) ht hs;obtain ⟨f,h3,rfl,rfl⟩:=Y7 h2 hn;have hv':cs[f.offset]? = some v:=by rw [← np];exact hv
 simp only [execOp,ho,hρ _ _ hx,Instr.field,Sem.run_bind,h1,Result.andThen,h3,asAgg,Sem.run_pure,part,uc hft,hagg];simp [hv']
end
end Go.Eng
namespace Go.Eng
open Go Go.RowKit

section
variable {P:Program} {tt:Nat→Option TI} [TT P tt] {ro:Option Nat} {N n:Nat} {l rest:List Oper} {Q:Exit→Act→World→Prop} {E E0:List (Nat × Value)} {ds:List Deferred} {b:World} {F F0:List SP} {fl:Oper→Bool}

inductive FR2 where
 | val (v : Value)
 | new (t : Nat) (zs : List Value)
 | rel (R : Value → List SP → Prop)
def okR (us:Nat→Value) (Ys:Nat→List SP):Nat→List FR2→Prop
 | _, [] => True
 | j, .rel R :: D => R (us j) (Ys j) ∧ okR us Ys (j + 1) D
 | j, _ :: D => okR us Ys (j + 1) D
variable {D:List FR2} {d:Nat} {op:Op} {ty:TypeId} {pos:String} {aft:Array Edge} {g:Option (Nat × Bool)} {v:Value}
theorem kK (A:List SP):Ent (A++F) F:=(kh ase).trans (Sf A)
end
end Go.Eng
namespace Go.Eng
open Go Go.RowKit
section
variable {P:Program} {tt:Nat→Option TI} [TT P tt] {ro:Option Nat} {N:Nat} {l:List Oper} {Q:Exit→Act→World→Prop} {E:List (Nat × Value)} {ds:List Deferred} {b:World} {F F0:List SP} {fl:Oper→Bool}
variable {rest:List Oper} {G:List SP} {kk d:Nat} {op:Op} {ty:TypeId} {pos:String} {aft:Array Edge} {g:Option (Nat × Bool)} {v:Value}
 {α:Type} [DecidableEq α] {K:α→Value} {ok:α→Prop} {L:List (α × Value)} {a:α}
theorem zx (q:Nat) {t k e s1 s2 gm:Nat} {z1:Value} {f1:List (Nat × Nat)} {i:TI} {m x:Operand} (M:MK P k K ok) (ha:ok a) (hv:(jl a L).getD i.zero=v) (hg:cl l E g=some true) (hop:op = .lookup t m x false) (ht:tt t=some ⟨.map k e,s1,s2,z1,f1⟩) (he:tt e=some i) (hm:ev E m=some (.map (some gm))) (hx:ev E x=some (K a))
  (hF:nth F q=some (mp gm K ok L)) (hd:Nat.blt d N=true) (h:SO P ro N l rest Q ((d,v)::E) ds b F):SO P ro N l (⟨some d,op,ty,pos,aft,g⟩::rest) Q E ds b F:=by
 subst hop;refine fc hg (fun w H=> ?_) hd h;have:=gD (ty:=ty) (c:=false) M ht he hm hx ha hF w H;simpa [hv] using this
theorem Nj (q:Nat) {t k e s1 s2 gm:Nat} {z1:Value} {f1:List (Nat × Nat)} {i:TI} {m x:Operand} (M:MK P k K ok) (ha:ok a) (hv:(jl a L).getD i.zero=v) (hg:cl l E g=some true) (hf:fl ⟨some d,op,ty,pos,aft,g⟩=true) (hop:op = .lookup t m x false) (ht:tt t=some ⟨.map k e,s1,s2,z1,f1⟩) (he:tt e=some i) (hm:ev E m=some (.map (some gm))) (hx:ev E x=some (K a))
  (hF:nth F0 q=some (mp gm K ok L)) (hd:Nat.blt d N=true) (h:SD P fl ro N F0 l (kk+1) rest Q ((d,v)::E) ds b F):SD P fl ro N F0 l kk (⟨some d,op,ty,pos,aft,g⟩::rest) Q E ds b F:=by
 subst hop;refine j7 hg (fun w H=> ?_) hf hd h;have:=gD (ty:=ty) (c:=false) M ht he hm hx ha hF w H;simpa [hv] using this
end
end Go.Eng
namespace Go.Eng
open Go Go.RowKit

theorem Ka {P:Program} {tt:Nat→Option TI} [TT P tt] {w:World} {dT sT ty elem s1 s2 g o dLen dCap m sz:Nat} {z1:Value} {f1:List (Nat × Nat)} {i:TI} {cur:Array Value} {t:TypeId} {vx:Value} {news:List Value}
  (ht:tt dT=some ⟨.slice elem,s1,s2,z1,f1⟩) (he:tt elem=some i) (hi:Nat.beq i.size sz=true) (hg:w.heap[g]? = some (.cells cur t (0,0))) (hsl:SL w sz vx m news) (hfit:o+min m dLen*sz≤cur.size) (h1:∀ u∈news.take (min m dLen*sz),u.oneCell'=true) :
  (Builtin.copy_ #[dT,sT] ty #[.slice (some ⟨g,o,none⟩) dLen dCap,vx]).run P w = .ok (.int .i64 ((min m dLen:Nat):Int)) (w.setRow g (spl cur.toList o (news.take (min m dLen*sz))).toArray):=by
 obtain ⟨j,hj,h2,_,_⟩:=TT.info (P:=P) elem i he;have hu:=TT.und (P:=P) dT _ ht Z;have hs1:=aqd hi;obtain ⟨A,c,rfl,hl,hc,hmx,hz0,hcell⟩:=hsl;cases A with
 | none =>
  have hm0:m=0:=by have:=hz0 Z;omega
  subst hm0;have hn:news = []:=aql (by simpa using hl);subst hn;obtain rfl:c=0:=hz0 Z;have hr:=run_copy_nil (P:=P) w dT sT ty elem ⟨g,o,none⟩ dLen dCap hu (by simp [hj]);rw [hr];have:spl cur.toList o (List.take (min 0 dLen*sz) [])=cur.toList:=by simp [spl]
  rw [this,Array.toArray_toList,setRow_self w g cur t (0,0) hg,Nat.zero_min]
  rfl
 | some a =>
  generalize hq:min m dLen=q at *;have hq':Nat.min m dLen=q:=hq;have hqm:q*sz≤m*sz:=ara _ (by omega);have htl:(news.take (q*sz)).length=q*sz:=by rw [ap7];omega
  have hnews:∀ k u,(news.take (q*sz))[k]? = some u→w.cell? (a.add k)=some u:=by
   intro k u hk;have hlt:k<q*sz:=by have:=(ap4.1 hk).1;omega
   have hk':news[k]? = some u:=by rw [arh,if_pos hlt] at hk;exact hk
   have hm0:0<m:=by
    rcases aq4 m with h0 | h0
    ·subst h0;omega
    ·exact h0
   obtain ⟨b,off',hab,hb,hcc⟩:=hcell hm0;cases hab;have ha:(⟨b,off',none⟩:Addr).add k=⟨b,off'+k,none⟩:=by unfold Addr.add;split <;> simp_all
   rw [ha,hcc k (by omega),hk']
  have hf:=run_firstCells_some (P:=P) w i.size q a m c (news.take (q*sz)) (by rw [htl,hs1]) hnews;have hst:=run_storeCells_at P g o t (news.take (q*sz)) 0 cur w hg (by rw [htl];omega) h1;have e9:cur.toList.take o++news.take (q*sz)++cur.toList.drop (o+(news.take (q*sz)).length)=spl cur.toList o (news.take (q*sz)):=by simp [spl]
  simp only [as8] at hst;rw [e9] at hst;simp [Builtin.copy_,run_underlying hu,Builtin.lenOf,sizeOf,typeInfo,hj,h2,hq',hf,hst]
  rfl
section
variable {P:Program} {tt:Nat→Option TI} [TT P tt] {ro:Option Nat} {N:Nat} {l rest:List Oper} {Q:Exit→Act→World→Prop} {E:List (Nat × Value)} {ds:List Deferred} {b:World} {F F0 G:List SP} {fl:Oper→Bool} {kk:Nat}
 {d:Nat} {op:Op} {ty:TypeId} {pos:String} {aft:Array Edge} {g:Option (Nat × Bool)} {v:Value}
theorem oI {dT sT elem s1 s2 g' e sz n cap o0 o dLen dCap m at':Nat} {z1:Value} {f1:List (Nat × Nat)} {i:TI} {x y:Operand} {vx:Value} {cs cs' news:List Value} (k:Nat) (ht:tt dT=some ⟨.slice elem,s1,s2,z1,f1⟩) (he:tt elem=some i) (hi:Nat.beq i.size sz=true)
  (hx:ev E x=some (.slice (some ⟨g',at',none⟩) dLen dCap)) (hy:ev E y=some vx) (hF:nth F k=some (row e sz (.slice (some ⟨g',o0,none⟩) n cap) n cs)) (hc:spl cs o (news.take (min m dLen*sz))=cs') (hG:jf F k (row e sz (.slice (some ⟨g',o0,none⟩) n cap) n cs')=some G) (hat:at'=o0+o) (hsl:∀ w,Sat b F w→SL w sz vx m news) (hfit:o+min m dLen*sz≤cs.length) (h1:∀ u∈news.take (min m dLen*sz),u.oneCell'=true) :
  ∀ w,Sat b F w→∃ w',Ex P E (.call ⟨.builtin .copy,⟨[x,y]⟩,⟨[dT,sT]⟩⟩) ty w (.int .i64 ((min m dLen:Nat):Int)) w'∧Sat b G w':=fun w H=>by
 subst hc;subst hat;have hnl:(news.take (min m dLen*sz)).length=min m dLen*sz:=by
  obtain ⟨_,_,_,h,_⟩:=hsl w H;have:min m dLen*sz≤m*sz:=ara _ (by omega);rw [ap7];omega
 obtain ⟨h0,l0,hA⟩:=H.mem.get hF;obtain ⟨hl,⟨hv,_⟩ | ⟨g2,off2,cap2,cur,hv,hh,h2,h3,h4,h5⟩⟩:=hA
 ·cases hv
 simp only [Value.slice.injEq,apx,Addr.mk.injEq,true_and,atx] at hv;obtain ⟨⟨rfl,rfl⟩,rfl⟩:=hv;have hw:w.heap[g']? = some (.cells cur e (0,0)):=l0 _ _ hh;have hle:n*sz≤cap*sz:=ara _ h2;have hr:=Ka (P:=P) (ty:=ty) (sT:=sT) (dLen:=dLen) (dCap:=dCap) (o:=o0+o) ht he hi hw (hsl w H) (by omega) h1;generalize hnw:news.take (min m dLen*sz)=nw at *;generalize min m dLen=q at *;refine ⟨w.setRow g' (spl cur.toList (o0+o) nw).toArray,?_,H.upd (B:=row e sz (.slice (some ⟨g',o0,none⟩) n cap) n (spl cs o nw)) k hF (Fr.setRow w g' _) (fun h4' l4 hA4=> ?_) hG⟩
 ·intro ρ q hρ ho hty;subst hty;simp only [execOp,ho,resolve,invoke,builtin,Sem.run_bind,Sem.run_pure,Result.andThen];have e1:Array.map ρ #[x,y] = #[.slice (some ⟨g',o0+o,none⟩) dLen dCap,vx]:=by simp [hρ _ _ hx,hρ _ _ hy]
  simp only [e1,hr]
 ·have h4g:h4' g'=some (.cells cur e (0,0)):=by
   rcases hA4.2 with ⟨hv4,_⟩ | ⟨g5,off5,cap5,cur5,hv5,hh5,_⟩
   ·cases hv4
   ·simp only [Value.slice.injEq,apx,Addr.mk.injEq] at hv5;obtain ⟨⟨rfl,_⟩,_⟩:=hv5;have:=(l4 _ _ hh5).symm.trans hw;rw [hh5];exact this
  refine ⟨fun q _ hq=>by subst hq;rw [h4g];simp,_,wm (h:=ph _) (setRow_heap w g' cur _ e _ hw),⟨by rw [ug (by omega)];exact hl,.inr ⟨g',o0,cap,_,rfl,wo g' _,h2,h3,?_,?_⟩⟩,fun q hq=> .inl (by rw [wn hq,h4g];simp)⟩
  ·have hc9:cur.toList.length=cur.size:=aqx;have hl9:o0+o+nw.length≤cur.toList.length:=by omega
   rw [ar7,ug hl9,hc9];exact h4
  ·show ((spl cur.toList (o0+o) nw).drop o0).take (n*sz)=spl cs o nw;have e1:cs=(cur.toList.drop o0).take (n*sz):=h5.symm;apply atn;intro j;have hcl:cur.toList.length=cur.size:=aqx;simp only [spl,arh,arc,List.getElem?_append,ap7,aps,aqw,e1];simp only [hcl];by_cases h1:j<n*sz
   ·rw [if_pos h1];by_cases h2:j<o
    ·rw [if_pos (by omega),if_pos (by omega),if_pos (by omega),if_pos h2,if_pos h1]
    ·by_cases h3:j - o<nw.length
     ·rw [if_neg (by omega),if_pos (by omega),if_neg (by omega),if_pos (by omega)];congr 1;omega
     ·rw [if_neg (by omega),if_neg (by omega),if_neg (by omega),if_neg (by omega),if_pos (by omega)];congr 1;omega
   ·rw [if_neg h1,if_neg (by omega),if_neg (by omega),if_neg (by omega)]
theorem r9 {dT sT elem s1 s2 g' e sz n cap o0 dLen dCap m at':Nat} {z1:Value} {f1:List (Nat × Nat)} {i:TI} {x y:Operand} {vx:Value} {cs cs' news:List Value} (k o:Nat) (hg:cl l E g=some true) (hd:Nat.blt d N=true) (hop:op = .call ⟨.builtin .copy,⟨[x,y]⟩,⟨[dT,sT]⟩⟩) (ht:tt dT=some ⟨.slice elem,s1,s2,z1,f1⟩) (he:tt elem=some i) (hi:Nat.beq i.size sz=true)
  (hx:ev E x=some (.slice (some ⟨g',at',none⟩) dLen dCap)) (hy:ev E y=some vx) (hF:nth F k=some (row e sz (.slice (some ⟨g',o0,none⟩) n cap) n cs)) (hc:spl cs o (news.take (min m dLen*sz))=cs') (hG:jf F k (row e sz (.slice (some ⟨g',o0,none⟩) n cap) n cs')=some G) (hat:at'=o0+o) (hsl:∀ w,Sat b F w→SL w sz vx m news) (hfit:o+min m dLen*sz≤cs.length) (h1:∀ u∈news.take (min m dLen*sz),u.oneCell'=true)
  (h:SO P ro N l rest Q ((d,.int .i64 ((min m dLen:Nat):Int))::E) ds b G):SO P ro N l (⟨some d,op,ty,pos,aft,g⟩::rest) Q E ds b F:=by
 subst hop;exact Y4 hg hd (oI k ht he hi hx hy hF hc hG hat hsl hfit h1) h
theorem sb {dT sT elem s1 s2 g' e sz n cap o0 dLen dCap m at':Nat} {z1:Value} {f1:List (Nat × Nat)} {i:TI} {x y:Operand} {vx:Value} {cs cs' news:List Value} (k o:Nat) (hg:cl l E g=some true) (hf:fl ⟨some d,op,ty,pos,aft,g⟩=false) (hd:Nat.blt d N=true) (hop:op = .call ⟨.builtin .copy,⟨[x,y]⟩,⟨[dT,sT]⟩⟩) (ht:tt dT=some ⟨.slice elem,s1,s2,z1,f1⟩) (he:tt elem=some i) (hi:Nat.beq i.size sz=true)
  (hx:ev E x=some (.slice (some ⟨g',at',none⟩) dLen dCap)) (hy:ev E y=some vx) (hF:nth F k=some (row e sz (.slice (some ⟨g',o0,none⟩) n cap) n cs)) (hc:spl cs o (news.take (min m dLen*sz))=cs') (hG:jf F k (row e sz (.slice (some ⟨g',o0,none⟩) n cap) n cs')=some G) (hat:at'=o0+o) (hsl:∀ w,Sat b F w→SL w sz vx m news) (hfit:o+min m dLen*sz≤cs.length) (h1:∀ u∈news.take (min m dLen*sz),u.oneCell'=true) (hE:Ent G F0)
  (h:SD P fl ro N F0 l (kk+1) rest Q ((d,.int .i64 ((min m dLen:Nat):Int))::E) ds b G):SD P fl ro N F0 l kk (⟨some d,op,ty,pos,aft,g⟩::rest) Q E ds b F:=by
 subst hop
 constructor
 intro w H;obtain ⟨w',h2,h3⟩:=oI (P:=P) (ty:=ty) k ht he hi hx hy hF hc hG hat hsl hfit h1 w H;exact nY hg hf h2 (h3.ent hE) hd (h.1 w' h3)
theorem rQ {t ti e j m sz s1 s2 u1 u2 c:Nat} {q:IntKind} {z1 z2:Value} {f1 f2:List (Nat × Nat)} {i:TI} {x y:Operand} {A:Option Addr} {cs:List Value} (hg:cl l E g=some true) (hd:Nat.blt d N=true)
  (hop:op = .call ⟨.builtin .append,⟨[x,y]⟩,⟨[t,ti]⟩⟩) (ht:tt t=some ⟨.slice e,s1,s2,z1,f1⟩) (hti:tt ti=some ⟨.int q,u1,u2,z2,f2⟩) (he:tt e=some i) (hi:(Nat.beq i.zero.cells.size sz&&Nat.beq i.size sz&&Nat.ble i.bytes 2097152&&Nat.blt 0 sz)=true)
  (hx:ev E x=some (.slice A j c)) (hy:ev E y=some (.int .i64 m)) (hsl:∀ w,Sat b F w→SL w sz (.slice A j c) j cs) (h0:0<m) (hn:j+m≤67108864) (hroom:c<j+m)
  (h:∀ gg c' zs,zs.length=m*sz→SO P ro N l rest Q ((d,.slice (some ⟨gg,0,none⟩) (j+m) c')::E) ds b (row e sz (.slice (some ⟨gg,0,none⟩) (j+m) c') (j+m) (cs++zs)::F)):SO P ro N l (⟨some d,op,ty,pos,aft,g⟩::rest) Q E ds b F:=by
 simp only [aqi] at hi;obtain ⟨⟨⟨h1',h2'⟩,h3'⟩,h4'⟩:=hi;have e1:=aqd h1';have e2:=aqd h2';have e3:=aqb h3';have e4:0<sz:=aqb h4';subst e2
 constructor
 intro w H;subst hop;obtain ⟨k,hk,h2,h3,h4⟩:=TT.info (P:=P) e i he;have hu:=TT.und (P:=P) t _ ht Z;have hv:=TT.und (P:=P) ti _ hti Z;have hz:(Builtin.zeroCells i.zero.cells m).size=m*i.size:=by rw [size_zeroCells,e1]
 have hrun:(Builtin.append_ #[t,ti] ty #[.slice A j c,.int .i64 m]).run P w =
   .ok (.slice (some ⟨w.heap.size,0,none⟩) (j+m) (grownCap w (j+m) c e)) (w.drew.alloc (.cells (cs.toArray++Builtin.zeroCells i.zero.cells m++Builtin.zeroCells i.zero.cells (grownCap w (j+m) c e - (j+m))) e)):=by
  have hw:IntKind.i64.wrap (m:Int)=m:=I64.wrap (by unfold I64;omega);have hbytes:(j+m)*i.bytes≤140737488355328:=art (atp hn e3) (by decide);have hmb:m*i.bytes≤(j+m)*i.bytes:=ara _ (by omega);have a1:¬ ((m:Int)<0):=by omega
  have a2:¬ (281474976710656<(m:Int)*(i.bytes:Int)):=by
   have:((m*i.bytes:Nat):Int)≤140737488355328:=by omega
   rw [Int.natCast_mul] at this;omega
  have a3:m≠0:=by omega
  have a4:i.size≠0:=by omega
  have a5:¬ (9223372036854775807<((j:Int)+(m:Int))):=by omega
  have a6:¬ (281474976710656<Builtin.nextslicecap (j+m) c*i.bytes):=by
   have:=growslice_fits (need:=j+m) (old:=c) (by omega) hbytes;omega
  have a7:¬ (j+m≤c):=by omega
  have hf:(Builtin.firstCells i.size j (.slice A j c)).run P w.drew = .ok cs.toArray w.drew:=by
   obtain ⟨A',c',hv',hl,hc,hmx,hz0,hcell⟩:=hsl w.drew (H.ext (Fr.drew w));cases hv';cases A with
   | none =>
    have hj0:j=0:=by have:=hz0 Z;omega
    subst hj0;have:cs = []:=aql (by simpa using hl);subst this;exact run_firstCells_none (P:=P) _ i.size 0 0 c
   | some a =>
    refine run_firstCells_some (P:=P) w.drew i.size j a j c cs hl fun k u hk=> ?_;have hlt:k<cs.length:=(ap4.1 hk).1;have hj0:0<j:=by
     rcases aq4 j with h | h
     ·subst h;omega
     ·exact h
    obtain ⟨b',off',hab,hb,hcc⟩:=hcell hj0;cases hab;have ha:(⟨b',off',none⟩:Addr).add k=⟨b',off'+k,none⟩:=by unfold Addr.add;split <;> simp_all
    rw [ha,hcc k hlt,hk]
  have a8:¬ (m=0∨i.size=0):=by omega
  simp [Builtin.append_,run_underlying hu,run_underlying hv,sizeOf,typeInfo,hk,h2,h3,h4,zeroValue,asInt,asIntOf,hw,a1,a2,a3,a4,a5,a6,a7,Question.forced,hf,newRow,grownCap];intro h9;exact absurd (Nat.mul_eq_zero.1 h9) a8
 refine fm (w':=w.drew.alloc (.cells (cs.toArray++Builtin.zeroCells i.zero.cells m++Builtin.zeroCells i.zero.cells (grownCap w (j+m) c e - (j+m))) e)) hg ?_ hd ((h w.heap.size (grownCap w (j+m) c e) (Builtin.zeroCells i.zero.cells m).toList (by rw [aqx,hz])).1 _ ?_)
 ·intro ρ o hρ hop' hty;subst hty;simp only [execOp,hop',resolve,invoke,builtin,Sem.run_bind,Sem.run_pure,Result.andThen];have e1:Array.map ρ #[x,y] = #[.slice A j c,.int .i64 m]:=by simp [hρ _ _ hx,hρ _ _ hy]
  simp only [e1,hrun]
 ·have hge:=grownCap_ge w (j+m) c e;have hgm:=grownCap_le_maxLen w (j+m) c e (by unfold maxLen;omega);obtain ⟨_,_,_,hl,_⟩:=hsl w H;refine H.newOat ((Fr.drew w).trans (Fr.alloc _ _)) ⟨by simp only [aps,aqx,hz,hl,ass],.inr ⟨w.heap.size,0,_,_,rfl,aqp _,heap_alloc_new w.drew _,hge,hgm,?_,?_⟩⟩
  ·simp only [Array.size_append,ar7,size_zeroCells,e1,hl,← ass,aqy];apply Nat.le_of_eq;congr 1;omega
  ·simp only [Array.toList_append,atb];refine arl ?_;simp only [aps,aqx,ar7,hz,hl,ass]
theorem mN {e sz n g' off cap:Nat} {cs:List Value} {Gf:List Value→List SP} (k:Nat) (hk:nth F k=some (row e sz (.slice (some ⟨g',off,none⟩) n cap) n cs)) (hn:n<cap) (hG:∀ zs,jf F k (row e sz (.slice (some ⟨g',off,none⟩) (n+1) cap) (n+1) (cs++zs))=some (Gf zs))
  (h:∀ zs,zs.length=sz→SO P ro N l rest Q E ds b (Gf zs)):SO P ro N l rest Q E ds b F:=⟨fun w H=>by
 obtain ⟨h0,l0,hA⟩:=H.mem.get hk;obtain ⟨hl,⟨hv,_⟩ | ⟨g2,off2,cap2,cur,hv,hh,h2,h3,h4,h5⟩⟩:=hA
 ·cases hv
 simp only [Value.slice.injEq,apx,Addr.mk.injEq,true_and,atx] at hv;obtain ⟨⟨rfl,rfl⟩,rfl⟩:=hv;have hle:(n+1)*sz≤cap*sz:=ara _ hn;have hle2:(n+1)*sz=n*sz+sz:=by rw [ass,Nat.one_mul]
 have hcl:cur.toList.length=cur.size:=aqx
 let zs:=(cur.toList.drop (off+n*sz)).take sz
 have hz:zs.length=sz:=by
  show ((cur.toList.drop (off+n*sz)).take sz).length=sz;rw [ap7,aqw];omega
 refine (h zs hz).1 w <| H.upd k hk (Fr.refl (fun _=>False) w) (fun h4' l4 hA4=> ?_) (hG zs);have hw:w.heap[g']? = some (.cells cur e (0,0)):=l0 _ _ hh;refine ⟨fun _ _ hq=>hq.elim,h4',l4,⟨by rw [aps,hl,hz,hle2],.inr ⟨g',off,cap,cur,rfl,?_,by omega,h3,h4,?_⟩⟩,fun q hq=> .inl hq⟩
 ·rcases hA4.2 with ⟨hv4,_⟩ | ⟨g5,off5,cap5,cur5,hv5,hh5,_⟩
  ·cases hv4
  ·simp only [Value.slice.injEq,apx,Addr.mk.injEq] at hv5;obtain ⟨⟨rfl,_⟩,_⟩:=hv5;have:=(l4 _ _ hh5).symm.trans hw;rw [hh5];exact this
 ·show (cur.toList.drop off).take ((n+1)*sz)=cs++(cur.toList.drop (off+n*sz)).take sz;rw [hle2,List.take_add,h5,atz]⟩
theorem Sat.ne_row {w:World} (h:Sat b F w) {i j g' g2 t off e sz n cap:Nat} {cs ds:List Value} (hi:nth F i=some (pt g' t cs)) (hj:nth F j=some (row e sz (.slice (some ⟨g2,off,none⟩) n cap) n ds)) (hij:i≠j):g'≠g2:=by
 rintro rfl;obtain ⟨H,a,b',c⟩:=h.mem;have h1:H i g'≠none:=by rw [show H i g'=_ from c i _ hi];simp
 have h2:H j g'≠none:=by
  rcases (c j _ hj).2 with ⟨hv,_⟩ | ⟨g5,off5,cap5,cur5,hv,hh,_⟩
  ·cases hv
  ·simp only [Value.slice.injEq,apx,Addr.mk.injEq] at hv;obtain ⟨⟨rfl,_⟩,_⟩:=hv;rw [hh];simp
 rcases b' i j hij g' with h3 | h3
 ·exact h1 h3
 ·exact h2 h3
theorem E6 {f:FuncId} {fn:Func} {tS tR e' s1 s2 ga oa la ca gb ob lb cb t1 e2 sz off n cap:Nat} {z1:Value} {f1:List (Nat × Nat)} {i:TI} {cs1 cs2:List Value} (k1 k2:Nat) (hg:cl l E g=some true) (hx:y6 E op=some (f,[.slice (some ⟨ga,oa,none⟩) la ca,.slice (some ⟨gb,ob,none⟩) lb cb])) (hd:Nat.blt d N=true)
  (hf : P.funcs[f]? = some fn) (hname : (fn.name == "runtime.NumGoroutine") = false) (hb : fn.body.isNone = true) (hn : Extern.findNext fn = none) (he : Extern.find fn = some (Extern.SlicesOverlaps.overlaps #[tS, tS] #[tR])) (ht : tt tS = some ⟨.slice e', s1, s2, z1, f1⟩) (hel : tt e' = some i)
  (hF1:nth F k1=some (pt ga t1 cs1)) (hF2:nth F k2=some (row e2 sz (.slice (some ⟨gb,off,none⟩) n cap) n cs2)) (hk:Nat.beq k1 k2=false) (h0:0<cap*sz)
  (h:SO P ro N l rest Q ((d,.bool false)::E) ds b F):SO P ro N l (⟨some d,op,ty,pos,aft,g⟩::rest) Q E ds b F:=by
 refine mG hg hx hd (fun w H=> ?_) h;have B:=H.blk hF1;have hne:=H.ne_row hF1 hF2 (by intro hc;subst hc;rw [asp] at hk;cases hk);obtain ⟨h1,l1,hA⟩:=H.mem.get hF2;have hrow:∃ cur:Array Value,w.heap[gb]? = some (.cells cur e2 (0,0))∧0<cur.size:=by
  rcases hA.2 with ⟨hv,_⟩ | ⟨g5,off5,cap5,cur5,hv,hh,_,_,h4,_⟩
  ·cases hv
  ·simp only [Value.slice.injEq,apx,Addr.mk.injEq] at hv;obtain ⟨⟨rfl,rfl,_⟩,_,rfl⟩:=hv;exact ⟨cur5,l1 _ _ hh,by omega⟩
 obtain ⟨cur,hw,hcs⟩:=hrow;rw [run_callFunc_extern hf hname hb hn he];have hr:=Go.Lib.run_overlaps_apart (P:=P) w tS tR e' (TT.und (P:=P) tS _ ht Z) i.size (fun w=>TT.run_size (P:=P) hel w) ⟨ga,oa,none⟩ ⟨gb,ob,none⟩ la ca lb cb hne t1 e2 cs1.length cur.size (by simp [World.shape?,show w.heap[ga]? = _ from B]) (by simp [World.shape?,hw]) (by omega) (B.frozen _) (B.frozen _);show Result.andThen ((Extern.SlicesOverlaps.overlaps #[tS,tS] #[tR] #[.slice (some ⟨ga,oa,none⟩) la ca,.slice (some ⟨gb,ob,none⟩) lb cb]).run P w) _=_;rw [hr]
 rfl
end
end Go.Eng
namespace Go.Eng
open Go Go.RowKit

section
variable {P:Program} {ro:Option Nat} {l:List Oper} {Q Q':Exit→Act→World→Prop} {S:World→Prop} {fl:Oper→Bool} {y:Nat} {oy:Oper}
end
section
variable {fl:Oper→Bool} {l:List Oper} {y:Nat} {oy:Oper}
end
section
variable {P:Program} {fl:Oper→Bool} {ro:Option Nat} {N:Nat} {l:List Oper} {Q Q':Exit→Act→World→Prop} {E:List (Nat × Value)} {ds:List Deferred} {b:World} {F F0:List SP} {y:Nat} {oy:Oper}
end
end Go.Eng
namespace Go.Eng
open Go Go.RowKit

section
variable {P:Program} {tt:Nat→Option TI} [TT P tt] {ro:Option Nat} {N n x0:Nat} {l rest:List Oper} {Q:Exit→Act→World→Prop} {E E0:List (Nat × Value)} {ds:List Deferred} {b:World} {F F0:List SP} {fl:Oper→Bool}

variable {D:List FR2} {d:Nat} {op:Op} {ty:TypeId} {pos:String} {aft:Array Edge} {g:Option (Nat × Bool)} {v:Value}
end
end Go.Eng
namespace Go.Eng
open Go Go.RowKit

def ke (R X:List Nat):List Nat:=R.filter fun k=> !X.contains k
def isE (fl:Oper→Bool) (l:List Oper) (e:Nat):Bool:=match l[e]? with | some o=> !fl o | none=>false
def rdF (l:List Oper) (R:List Nat) (e:Nat):List Nat:=R.filter fun k=>(ov l e).contains k
def en (fl:Oper→Bool) (l:List Oper) (R:List Nat):List Nat:=R.filter fun e=>isE fl l e&&R.all fun x=> !(isE fl l x&&(ov l e).contains x)
def Nk (l:List Oper):Bool :=
 wl l&&(List.range l.length).all fun i=>(ov l i).all (Nat.blt · i)&&match l[i]? with
  | none => true
  | some o => (List.range i).all fun j => match l[j]? with
   | none => true
   | some p => if (ov l i).contains j then (ov l j).all (ov l i).contains else p.apart l.toArray o && o.apart l.toArray p

section
variable {P:Program} {ro:Option Nat} {l:List Oper} {Q Q':Exit→Act→World→Prop} {S:World→Prop} {fl:Oper→Bool}
theorem Nl {o p:Oper} {a:Act} {u:Value} {w:World} {n:Value→World→Prop} (hs:xu o=true) (h:oh l p o):Eff P ro o (a.put p.dst u) w n↔Eff P ro o a w n:=by
 unfold Eff;rw [yp hs h]
theorem Tx.firstU (hns:∀ (i:Nat) (o:Oper),l[i]? = some o→xu o=true) {i:Nat} {oi:Oper} (hi:l[i]? = some oi)
  (hQ:∀ a w,S w→Q .normal a w→∃ v,Fl P l S oi a v∧Q' .normal (a.put oi.dst v) w) :
  ∀ (R:List Nat) (a:Act) (w:World),(∀ r∈R,∀ p:Oper,l[(r:Nat)]? = some p→oh l p oi)→S w→Tx P fl ro l S Q R a w →
   ∃ v,Fl P l S oi a v∧Tx P fl ro l S Q' R (a.put oi.dst v) w:=by
 intro R
 induction R with
 | nil => intro a w _ hS h; exact hQ a w hS h
 | cons r R1 ih =>
  intro a w hap hS h;obtain ⟨p,hp,hw,hn⟩:=h;have hapr:=hap r aqe p hp;have hap':∀ r∈R1,∀ p:Oper,l[(r:Nat)]? = some p→oh l p oi:=fun r hr=>hap r (aqj _ hr)
  have hsp:=hns _ _ hp;have hsi:=hns _ _ hi;cases hwant:Region.wanted p (yielded l.toArray a.tmps) with
  | false =>
   obtain ⟨v,hv,ht⟩:=ih _ w hap' hS (hn hwant);refine ⟨v,(Fl.put hsi hapr).1 hv,p,hp,fun hc=> ?_,fun _=> ?_⟩
   ·rw [oz hapr.symm,hwant] at hc;cases hc
   ·rw [yq hapr.symm];exact ht
  | true =>
   rcases hw hwant with ⟨hfp,u,hu,ht0⟩ | ⟨hfp,he⟩
   ·obtain ⟨v,hv,ht⟩:=ih _ w hap' hS ht0;refine ⟨v,(Fl.put hsi hapr).1 hv,p,hp,fun _=> .inl ⟨hfp,u,?_,?_⟩,fun hc=> ?_⟩
    ·rw [yp hsp hapr.symm];exact hu
    ·rw [yq hapr.symm];exact ht
    ·rw [oz hapr.symm,hwant] at hc;cases hc
   ·obtain ⟨u0,w0,hS0,ht0⟩:=he.some;obtain ⟨v,hv,_⟩:=ih _ w0 hap' hS0 ht0;have hv:=(Fl.put hsi hapr).1 hv;refine ⟨v,hv,p,hp,fun _=> .inr ⟨hfp,?_⟩,fun hc=> ?_⟩
    ·rw [Nl hsp hapr.symm];refine he.mono ?_;rintro u w' ⟨hS',ht'⟩;obtain ⟨v',hv',ht''⟩:=ih _ w' hap' hS' ht';have hv':=(Fl.put hsi hapr).1 hv';have:=Fl.unique hS' hv hv';subst this;refine ⟨hS',?_⟩;rw [yq hapr.symm];exact ht''
    ·rw [oz hapr.symm,hwant] at hc;cases hc
def GX (P:Program) (fl:Oper→Bool) (ro:Option Nat) (l:List Oper) (Q:Exit→Act→World→Prop):Nat→List Nat→(World→Prop)→Act→World→Prop
 | 0, _, _, a, w => Q .normal a w
 | n + 1, R, S, a, w => (en fl l R = [] → Tx P fl ro l S Q R a w) ∧ ∀ e ∈ en fl l R, Tx P fl ro l S (fun _ a w => ∃ S' : World → Prop, (∀ w, S w → S' w) ∧ Tx P fl ro l S' (fun _ => GX P fl ro l Q n (ke R (e :: rdF l R e)) S') [e] a w) (rdF l R e) a w
theorem gG {R X:List Nat} {k:Nat}:k∈ke R X↔k∈R∧k∉X:=by simp [ke]
theorem wH {R X:List Nat} {e:Nat} (h:e∈R):(ke R (e::X)).length<R.length:=by
 unfold ke;rw [List.length_filter_lt_length_iff_exists];exact ⟨e,h,by simp⟩
theorem oJ {R R1 R2:List Nat} {i:Nat} (h:R=R1++i::R2) (hs:R.Pairwise (· < ·)):ke R [i]=R1++R2∧(∀ r∈R1,r<i)∧i∉R1∧i∉R2:=by
 subst h;obtain ⟨_,h2,h3⟩:=arn.1 hs;have h1:∀ r∈R1,r<i:=fun r hr=>h3 r hr i aqe
 have h4:∀ r∈R2,i<r:=(aq1.1 h2).1;have n1:i∉R1:=fun h=>absurd (h1 i h) (Nat.lt_irrefl i)
 have n2:i∉R2:=fun h=>absurd (h4 i h) (Nat.lt_irrefl i)
 refine ⟨?_,h1,n1,n2⟩;have e:∀ {L:List Nat},i∉L→L.filter (fun k=> !([i]:List Nat).contains k)=L:=fun h=>aq9.2 fun k hk=>by simpa using fun (e:k=i)=>h (e▸hk)
 unfold ke;rw [ari,ard,e n1,e n2];simp
theorem Ho (h:Nk l=true):wl l=true∧(∀ (i j:Nat),j∈ov l i→i<l.length→∀ k∈ov l j,k∈ov l i)∧∀ (i j:Nat) (o p:Oper),l[i]? = some o→l[j]? = some p→j<i→j∈ov l i∨oh l p o:=by
 simp only [Nk,aqi] at h;have key:∀ (i j:Nat) (o p:Oper),l[i]? = some o→l[j]? = some p→j<i→(if (ov l i).contains j then (ov l j).all (ov l i).contains else p.apart l.toArray o&&o.apart l.toArray p)=true:=fun i j o p ho hp hji=>by
  have:=aqm.1 h.2 i (aqr.2 (ap4.1 ho).1);rw [aqi] at this;have:=this.2;simp only [ho] at this;have:=aqm.1 this j (aqr.2 hji);simpa only [hp] using this
 refine ⟨h.1,fun i j hj hil k hk=> ?_,fun i j o p ho hp hji=> ?_⟩
 ·have hji:j<i:=by
   have:=aqm.1 h.2 i (aqr.2 hil);rw [aqi] at this;exact aqb (aqm.1 this.1 j hj)
  have:=key i j _ _ (apv hil) (apv (by omega)) hji;rw [if_pos (ar0.2 hj)] at this;exact ar0.1 (aqm.1 this k hk)
 ·have:=key i j o p ho hp hji;by_cases hc:j∈ov l i
  ·exact .inl hc
  ·rw [if_neg (by rwa [ar0]),aqi] at this;exact .inr ⟨this.1,this.2⟩
theorem GX.first (hok:Nk l=true) {i:Nat} {oi:Oper} (hoi:l[i]? = some oi) (hf:fl oi=true):∀ (n:Nat) (R:List Nat) (S:World→Prop) (a:Act) (w:World),R.Pairwise (· < ·)→(∀ r∈R,r<l.length)→i∈R→R.length≤n→(∀ x∈R,x∉ov l i)→S w→GX P fl ro l Q n R S a w →
   ∃ v,Fl P l S oi a v∧GX P fl ro l Q n (ke R [i]) S (a.put oi.dst v) w
 | 0, R, _, _, _, _, _, hi, hn, _, _, _ => by
  rw [aql (Nat.le_zero.1 hn)] at hi;cases hi
 | n + 1, R, S, a, w, hs, hlt, hi, hn, hx, hS, h => by
  obtain ⟨hb,htr,hp⟩:=Ho hok;have hns:=fZ hb;obtain ⟨h1,h2⟩:=h;have hil:i<l.length:=hlt i hi;have hei:isE fl l i=false:=by simp only [isE,hoi,hf,Bool.not_true]

  have hen:∀ {e},e∈en fl l (ke R [i])↔e∈en fl l R:=fun {e}=>by
   simp only [en,aqv,gG,aqi,aqm,apy]
   constructor
   ·rintro ⟨⟨a1,a2⟩,a3,a4⟩;refine ⟨a1,a3,fun x hx'=> ?_⟩;by_cases hxi:x=i
    ·rw [hxi,hei];rfl
    ·exact a4 x ⟨hx',hxi⟩
   ·rintro ⟨a1,a3,a4⟩;exact ⟨⟨a1,fun e'=>by rw [e',hei] at a3;cases a3⟩,a3,fun x hx'=>a4 x hx'.1⟩
  have apl:∀ r∈R,r<i→∀ p:Oper,l[r]? = some p→oh l p oi:=fun r hr hri p hpr=>(hp i r oi p hoi hpr hri).resolve_left (hx r hr)
  have branch:∀ e∈en fl l R,∃ v,Fl P l S oi a v∧Tx P fl ro l S (fun _ a w=>∃ S':World→Prop,(∀ w,S w→S' w)∧Tx P fl ro l S' (fun _=>GX P fl ro l Q n (ke (ke R [i]) (e::rdF l (ke R [i]) e)) S') [e] a w) (rdF l (ke R [i]) e) (a.put oi.dst v) w:=fun e he=>by
   have he':=aqv.1 he;have heR:=he'.1;have hel:=hlt e heR;have hene:e≠i:=fun e'=>by
    have h3:=he'.2;rw [e',hei] at h3;simp only [Bool.false_and] at h3;cases h3
   have ht:=h2 e he;have hLR:∀ r∈rdF l R e,r∈R∧r∈ov l e:=fun r hr=>by
    have:=aqv.1 hr;exact ⟨this.1,ar0.1 this.2⟩
   have hLs:(rdF l R e).Pairwise (· < ·):=ary _ hs;have hcom:rdF l (ke R [i]) e=ke (rdF l R e) [i]:=by
    unfold rdF ke;rw [aso,aso];exact asn fun k _=>Bool.and_comm _ _
   by_cases hiL:i∈rdF l R e
   ·obtain ⟨L1,L2,hL⟩:=atf hiL;obtain ⟨m1,m2,m3,m4⟩:=oJ hL hLs;rw [hL] at ht;obtain ⟨v,hv,ht'⟩:=Tx.first hns hoi hf L1 a w (fun r hr p hpr=>apl r (hLR r (by rw [hL];exact aqu _ hr)).1 (m2 r hr) p hpr) hS ht;refine ⟨v,hv,?_⟩;rw [hcom,m1];have hR':ke (ke R [i]) (e::(L1++L2))=ke R (e::rdF l R e):=by
     unfold ke;rw [aso];refine asn fun k _=> ?_;rw [hL];by_cases k1:k=i <;> by_cases k2:k=e <;> simp [k1,k2]
    rw [hR',hL];exact ht'
   ·have hnia:i∉ov l e:=fun hc=>hiL (aqv.2 ⟨hi,ar0.2 hc⟩)
    have hap:∀ r∈R,(r=e∨r∈ov l e)→∀ p:Oper,l[r]? = some p→oh l p oi:=fun r hr hre p hpr=>by
     rcases Nat.lt_trichotomy r i with hlt' | heq | hgt
     ·exact apl r hr hlt' p hpr
     ·subst heq;rcases hre with rfl | hre
      ·exact absurd Z hene
      ·exact absurd hre hnia
     ·rcases hp r i p oi hpr hoi hgt with hc | hc
      ·rcases hre with rfl | hre
       ·exact absurd hc hnia
       ·exact absurd (htr e r hre hel i hc) hnia
      ·exact hc.symm
    have hmi:ke (rdF l R e) [i]=rdF l R e:=aq9.2 fun k hk=>by simpa using fun (e':k=i)=>hiL (e'▸hk)
    rw [hcom,hmi];have hR':ke (ke R [i]) (e::rdF l R e)=ke (ke R (e::rdF l R e)) [i]:=by
     unfold ke;rw [aso,aso];exact asn fun k _=>Bool.and_comm _ _
    rw [hR'];refine Tx.firstU hns hoi (fun a w hS h=> ?_) _ a w (fun r hr p hpr=>hap r (hLR r hr).1 (.inr (hLR r hr).2) p hpr) hS ht;obtain ⟨S',hSS,h⟩:=h;obtain ⟨v,hv,h'⟩:=Tx.firstU (Q':=fun _=>GX P fl ro l Q n (ke (ke R (e::rdF l R e)) [i]) S') hns hoi (fun a w hS h=>GX.first hok hoi hf n _ S' a w (ary _ hs) (fun r hr=>hlt r (gG.1 hr).1) (gG.2 ⟨hi,fun hc=>(ap1.1 hc).elim (fun e'=>hene e'.symm) hiL⟩)
     (by have:=wH heR (X:=rdF l R e);omega) (fun x hx'=>hx x (gG.1 hx').1) hS h) [e] a w (fun r hr p hpr=>by
      rw [apy.1 hr] at hpr;exact hap e heR Zl p hpr) (hSS w hS) h
    exact ⟨v,⟨fun hw W hW=>hv.1 hw W (hSS W hW),hv.2⟩,S',hSS,h'⟩
  by_cases hnil:en fl l R = []
  ·obtain ⟨R1,R2,hR⟩:=atf hi;obtain ⟨m1,m2,_⟩:=oJ hR hs;have ht:=h1 hnil;rw [hR] at ht;obtain ⟨v,hv,ht'⟩:=Tx.first hns hoi hf R1 a w (fun r hr p hpr=>apl r (by rw [hR];exact aqu _ hr) (m2 r hr) p hpr) hS ht;exact ⟨v,hv,fun _=>by rw [m1];exact ht',fun e he=>by rw [hen,hnil] at he;cases he⟩
  ·obtain ⟨e0,he0⟩:=as5 _ hnil;obtain ⟨v,hv,_⟩:=branch e0 he0;refine ⟨v,hv,fun hc=> ?_,fun e he=> ?_⟩
   ·have:=hen.2 he0;rw [hc] at this;cases this
   ·obtain ⟨v',hv',ht⟩:=branch e (hen.1 he);rw [Fl.unique hS hv hv'];exact ht
theorem Kb {listed:Array Bool} {i:Nat} (hsz:listed.size=l.length) (hi:i<l.length):left l (listed.setIfInBounds i true)=ke (left l listed) [i]:=by
 unfold left ke;rw [aso];refine asn fun j _=> ?_;by_cases hij:i=j
 ·subst hij;simp [hsz,hi]
 ·rw [getD_set_ne true hij];simp [Ne.symm hij]
theorem Kc (hok:Nk l=true) (hm:P.follows .mixedOrders=true) {id n:Nat} {a:Act} {w:World} (hn:l.length≤n) (hS:S w.drew) (h:GX P fl ro l Q n (List.range l.length) S a w.drew):(Code.region id l.toArray true).wpIn (FR ro) 0 P Q a w:=by
 obtain ⟨hb,_,_⟩:=Ho hok;have hl0:left l (Array.replicate l.length false)=List.range l.length:=by
  unfold left;rw [aq9];intro i hi;simp [aqr.1 hi]
 have hls:∀ listed:Array Bool,(left l listed).Pairwise (· < ·):=fun _=>ary _ as0
 have hll:∀ (listed:Array Bool),∀ r∈left l listed,r<l.length:=fun _ r hr=>aqr.1 (aqv.1 hr).1
 refine iZ hb hm (fun listed a w=>∃ (n:Nat) (S:World→Prop),(left l listed).length≤n∧S w∧GX P fl ro l Q n (left l listed) S a w) ⟨n,S,by rw [hl0,List.length_range];exact hn,hS,by rw [hl0];exact h⟩ ?_ ?_
 ·rintro listed a w i o hsz hcl ⟨n,S,hn,hS,h⟩ ho hf hdeps;have hil:i<l.length:=(ap4.1 ho).1;have hanc:∀ r∈ov l i,listed.getD r false=true:=fun r hr=>uh hcl l [] [] Z Z (fun i o h=>by simp at h) i o ho hdeps r hr
  have hmem:∀ r,r∈left l listed↔r<l.length∧listed.getD r false=false:=fun r=>by
   unfold left;rw [aqv,aqr];refine and_congr_right fun hr=> ?_;rw [jr (by omega)];simp
  have hi:i∈left l listed:=(hmem i).2 ⟨hil,hf⟩;have hx:∀ x∈left l listed,x∉ov l i:=fun x hx hc=>by
   have h1:=hanc x hc;rw [((hmem x).1 hx).2] at h1;cases h1
  unfold Yr;dsimp only;rw [Kb hsz hil];have hlen:(ke (left l listed) [i]).length≤n:=art (ar5 _ _) hn;cases hfo:fl o with
  | true =>
   obtain ⟨v,hv,h'⟩:=GX.first hok ho hfo n _ S a w (hls listed) (hll listed) hi hn hx hS h;refine ⟨fun hw=> ?_,fun hw=> ?_⟩
   ·unfold Eff;rw [hv.1 hw w hS];exact ⟨n,S,hlen,hS,h'⟩
   ·rw [hv.2 hw] at h';exact ⟨n,S,hlen,hS,h'⟩
  | false =>
   cases n with
   | zero => rw [aql (Nat.le_zero.1 hn)] at hi; cases hi
   | succ n =>
    have hie:isE fl l i=true:=by simp only [isE,ho,hfo,Bool.not_false]
    have hen:i∈en fl l (left l listed):=aqv.2 ⟨hi,by
     rw [hie,Bool.true_and];refine aqm.2 fun x hx'=> ?_;have:(ov l i).contains x=false:=by
      cases hc:(ov l i).contains x with
      | false => rfl
      | true => exact absurd (ar0.1 hc) (hx x hx')
     rw [this,Bool.and_false];rfl⟩
    have hrd:rdF l (left l listed) i = []:=List.filter_eq_nil_iff.2 fun x hx' hc=>hx x hx' (ar0.1 hc)
    have h1:=h.2 i hen;rw [hrd] at h1;obtain ⟨S',hSS,o',ho',hw,hn'⟩:=h1;rw [ho] at ho';cases ho';have hlen':(ke (left l listed) [i]).length≤n:=by have:=wH hi (X:= []);omega
    refine ⟨fun hw'=> ?_,fun hw'=>⟨n,S',hlen',hSS w hS,hn' hw'⟩⟩;rcases hw hw' with ⟨hf',_⟩ | ⟨_,he⟩
    ·rw [hfo] at hf';cases hf'
    ·exact he.mono fun v w' ⟨hS',h'⟩=>⟨n,S',hlen',hS',h'⟩
 ·rintro listed a w hsz ⟨n,S,hn,hS,h⟩ hall;have hnil:left l listed = []:=as7.2 fun i hi=>by
   have h1:=aqv.1 hi;have h2:=aqr.1 h1.1;rw [jr (by omega),hall i h2] at h1;cases h1.2
  rw [hnil] at h;cases n with
  | zero => exact h
  | succ n => exact h.1 Z
theorem pY:∀ {L L':List Nat} {a:Act} {w:World},(∀ a w,Tx P fl ro l S Q L' a w→Q' .normal a w)→Tx P fl ro l S Q (L++L') a w→Tx P fl ro l S Q' L a w
 | [], _, _, _, hQ, h => hQ _ _ h
 | i :: L, L', a, w, hQ, h => by
  obtain ⟨o,ho,hw,hn⟩:=h;refine ⟨o,ho,fun hwt=> ?_,fun hwt=>pY hQ (hn hwt)⟩;rcases hw hwt with ⟨hf,v,hv,h'⟩ | ⟨hf,he⟩
  ·exact .inl ⟨hf,v,hv,pY hQ h'⟩
  ·exact .inr ⟨hf,he.mono fun v w' ⟨hS,h'⟩=>⟨hS,pY hQ h'⟩⟩
theorem kL:∀ {L L':List Nat} {a:Act} {w:World},Tx P fl ro l S (fun _=>Tx P fl ro l S Q L') L a w→Tx P fl ro l S Q (L++L') a w
 | [], _, _, _, h => h
 | i :: L, L', a, w, h => by
  obtain ⟨o,ho,hw,hn⟩:=h;refine ⟨o,ho,fun hwt=> ?_,fun hwt=>kL (hn hwt)⟩;rcases hw hwt with ⟨hf,v,hv,h'⟩ | ⟨hf,he⟩
  ·exact .inl ⟨hf,v,hv,kL h'⟩
  ·exact .inr ⟨hf,he.mono fun v w' ⟨hS,h'⟩=>⟨hS,kL h'⟩⟩
end
section
variable {P:Program} {fl:Oper→Bool} {ro:Option Nat} {N:Nat} {l:List Oper} {Q Q':Exit→Act→World→Prop} {E:List (Nat × Value)} {ds:List Deferred} {b:World} {F F0 F1:List SP}
structure SG (P:Program) (fl:Oper→Bool) (ro:Option Nat) (N:Nat) (F0:List SP) (l:List Oper) (n:Nat) (R:List Nat) (Q:Exit→Act→World→Prop) (E:List (Nat × Value)) (ds:List Deferred) (b:World) (F:List SP):Prop where
 run:∀ w,Sat b F w→∀ a,Kn N E a→a.defers=ds→Sat b F0 w→GX P fl ro l Q n R (Sat b F0) a w
structure SB (P:Program) (fl:Oper→Bool) (ro:Option Nat) (N:Nat) (F0:List SP) (l:List Oper) (n:Nat) (L:List Nat) (e:Nat) (R:List Nat) (Q:Exit→Act→World→Prop) (E:List (Nat × Value)) (ds:List Deferred) (b:World) (F:List SP):Prop where
 run:∀ w,Sat b F w→∀ a,Kn N E a→a.defers=ds→Sat b F0 w→Tx P fl ro l (Sat b F0) (fun _ a w=>∃ S':World→Prop,(∀ w,Sat b F0 w→S' w)∧Tx P fl ro l S' (fun _=>GX P fl ro l Q n R S') [e] a w) L a w
def jF (fl:Oper→Bool) (l:List Oper) (R:List Nat):List (Nat × List Nat):=(en fl l R).map fun e=>(e,rdF l R e)
def Sh (p:Nat→List Nat→Prop):List (Nat × List Nat)→Prop
 | [] => True
 | x :: B => p x.1 x.2 ∧ Sh p B
theorem Sh.mem {p:Nat→List Nat→Prop}:∀ {B:List (Nat × List Nat)},Sh p B→∀ x∈B,p x.1 x.2
 | _ :: _, h, _, hx => (ap1.1 hx).elim (fun e => e ▸ h.1) fun hx => h.2.mem _ hx
theorem cK (fl:Oper→Bool) (n:Nat) (F0:List SP) [hm:Mixed P] {id:Nat} (hok:Nk l=true) (hn:Nat.ble l.length n=true) (he:Ent F F0) (h:SG P fl ro N F0 l n (List.range l.length) Q E ds b F):SW P ro N (.region id l.toArray true) Q E ds b F:=⟨fun w H a hk hd =>
 Kc (S:=Sat b F0) hok hm.on (aqb hn) ((H.ext (Fr.drew w)).ent he) (h.run _ (H.ext (Fr.drew w)) a hk hd ((H.ext (Fr.drew w)).ent he))⟩
theorem my {n:Nat} {R:List Nat} (x:Nat × List Nat) (B:List (Nat × List Nat)) (hB:jF fl l R=x::B) (h:Sh (fun e L=>SB P fl ro N F0 l n L e (ke R (e::L)) Q E ds b F) (x::B)):SG P fl ro N F0 l (n+1) R Q E ds b F:=⟨fun w H a hk hd H0=>by
 refine ⟨fun hc=> ?_,fun e he=> ?_⟩
 ·unfold jF at hB;rw [hc] at hB;cases hB
 rw [← hB] at h;exact (h.mem (e,rdF l R e) (ap8.2 ⟨e,he,rfl⟩)).run w H a hk hd H0⟩
theorem mO {k n:Nat} (hn:Nat.ble (k+n) l.length=true) (h:SD P fl ro N F0 l k ((l.drop k).take n) Q E ds b F) {w:World} (H:Sat b F w) {a:Act} (hk:Kn N E a) (hd:a.defers=ds) (H0:Sat b F0 w):Tx P fl ro l (Sat b F0) Q (List.range' k n) a w:=by
 have hn:=aqb hn;have hl:((l.drop k).take n).length=n:=by rw [ap7,aqw];omega
 have:=h.run w H a hk hd H0 (fun j hj=>by
  rw [hl] at hj;rw [arh,if_pos hj,arc])
 rw [hl] at this;exact this
def QB (P:Program) (fl:Oper→Bool) (ro:Option Nat) (l:List Oper) (S:World→Prop) (n:Nat) (L:List Nat) (e:Nat) (R:List Nat) (Q:Exit→Act→World→Prop):Exit→Act→World→Prop:=fun _=>Tx P fl ro l S (fun _ a w=>∃ S':World→Prop,(∀ w,S w→S' w)∧Tx P fl ro l S' (fun _=>GX P fl ro l Q n R S') [e] a w) L
def QG (P:Program) (fl:Oper→Bool) (ro:Option Nat) (l:List Oper) (S:World→Prop) (n:Nat) (R:List Nat) (Q:Exit→Act→World→Prop):Exit→Act→World→Prop:=fun _=>GX P fl ro l Q n R S
theorem i6 (k m:Nat) {n e:Nat} {L L2 R:List Nat} (hL:List.range' k m++L2=L) (hn:Nat.ble (k+m) l.length=true) (h:SD P fl ro N F0 l k ((l.drop k).take m) (QB P fl ro l (Sat b F0) n L2 e R Q) E ds b F):SB P fl ro N F0 l n L e R Q E ds b F:=⟨fun w H a hk hd H0=>by
 subst hL;exact kL (Q:=fun _ a w=>_) (mO hn h H hk hd H0)⟩
theorem pk {n e:Nat} {L R:List Nat} (he:Ent F F0) (h:SB P fl ro N F0 l n L e R Q E ds b F):SN N (QB P fl ro l (Sat b F0) n L e R Q) .normal E ds b F:=⟨fun w H a hk hd=>h.run w H a hk hd (H.ent he)⟩
theorem ip {n:Nat} {R:List Nat} (he:Ent F F0) (h:SG P fl ro N F0 l n R Q E ds b F):SN N (QG P fl ro l (Sat b F0) n R Q) .normal E ds b F:=⟨fun w H a hk hd=>h.run w H a hk hd (H.ent he)⟩
theorem fz (F1:List SP) {n e:Nat} {R:List Nat} (hn:Nat.ble (e+1) l.length=true) (h01:Ent F0 F1) (h:SD P fl ro N F1 l e ((l.drop e).take 1) (QG P fl ro l (Sat b F1) n R Q) E ds b F):SB P fl ro N F0 l n [] e R Q E ds b F:=⟨fun w H a hk hd H0 =>
 ⟨Sat b F1,fun w hw=>hw.ent h01,mO (n:=1) hn h H hk hd (H0.ent h01)⟩⟩
theorem dZ (k m:Nat) {n e:Nat} {L R:List Nat} (hL:List.range' k m=L) (he:Nat.beq (k+m) e=true) (hn:Nat.ble (e+1) l.length=true) (h:SD P fl ro N F0 l k ((l.drop k).take (m+1)) (QG P fl ro l (Sat b F0) n R Q) E ds b F):SB P fl ro N F0 l n L e R Q E ds b F:=⟨fun w H a hk hd H0=>by
 subst hL;have he:=aqd he;subst he;have h':=mO (k:=k) (n:=m+1) hn h H hk hd H0;rw [List.range'_1_concat] at h';exact pY (fun a w h=>⟨_,fun _ h=>h,h⟩) h'⟩
theorem p9 (k m:Nat) {n:Nat} {R:List Nat} (hB:jF fl l R = [(k+m,List.range' k m)]) (hn:Nat.ble (k+m+1) l.length=true) (h:SD P fl ro N F0 l k ((l.drop k).take (m+1)) (QG P fl ro l (Sat b F0) n (ke R ((k+m)::List.range' k m)) Q) E ds b F):SG P fl ro N F0 l (n+1) R Q E ds b F :=
 my _ _ hB ⟨dZ k m Z (asp _) hn h,trivial⟩
theorem jG (k m:Nat) {n:Nat} {R:List Nat} (hB:jF fl l R = []) (hR:R=List.range' k m) (hn:Nat.ble (k+m) l.length=true) (h:SD P fl ro N F0 l k ((l.drop k).take m) Q E ds b F):SG P fl ro N F0 l (n+1) R Q E ds b F:=⟨fun w H a hk hd H0=>by
 subst hR;exact ⟨fun _=>mO hn h H hk hd H0,fun e he=>by
  have:(e,rdF l _ e)∈jF fl l (List.range' k m):=ap8.2 ⟨e,he,rfl⟩;rw [hB] at this;cases this⟩⟩
theorem kN (k m k2 m2:Nat) {n:Nat} {R:List Nat} (hB:jF fl l R = []) (hR:R=List.range' k m++List.range' k2 m2) (hn:Nat.ble (k+m) l.length=true) (h:SD P fl ro N F0 l k ((l.drop k).take m) (fun _=>Tx P fl ro l (Sat b F0) Q (List.range' k2 m2)) E ds b F):SG P fl ro N F0 l (n+1) R Q E ds b F:=⟨fun w H a hk hd H0=>by
 refine ⟨fun _=> ?_,fun e he=> ?_⟩
 ·subst hR;exact kL (mO hn h H hk hd H0)
 ·have:(e,rdF l _ e)∈jF fl l R:=ap8.2 ⟨e,he,rfl⟩;rw [hB] at this;cases this⟩
theorem Nm {k m:Nat} (hn:Nat.ble (k+m) l.length=true) (he:Ent F F0) (h:SD P fl ro N F0 l k ((l.drop k).take m) Q E ds b F):SN N (fun _=>Tx P fl ro l (Sat b F0) Q (List.range' k m)) .normal E ds b F:=⟨fun w H a hk hd=>mO hn h H hk hd (H.ent he)⟩
theorem ve {T:Type} (n:Nat) (R:List Nat) (Em:T→List (Nat × Value)) (Fm:T→List SP) (I:T→Prop) {n0:Nat} {R0:List Nat} (tail:∀ s,I s→SG P fl ro N F0 l n R Q (Em s) ds b (Fm s))
  (h:(∀ s R' E' F',I s→R'=R→Sub (Em s) E'→Ent F' (Fm s)→SG P fl ro N F0 l n R' Q E' ds b F')→SG P fl ro N F0 l n0 R0 Q E ds b F):SG P fl ro N F0 l n0 R0 Q E ds b F:=h fun s R' E' F' hI hR hs hF=>by
 subst hR;exact ⟨fun w H a hk hd H0=>(tail s hI).run w (H.ent hF) a (hk.sub hs) hd H0⟩
end
end Go.Eng
namespace Go.Eng
open Go Go.RowKit

def ab3 {G:Type} (N:Nat) (b:World) (Eg:G→List (Nat × Value)) (Dg:G→List Deferred) (Fg:G→List SP) (I:G→Prop) (μ:G→Nat) (g:G) (a':Act) (w':World):Prop :=
 ∃ g',Kn N (Eg g') a'∧a'.defers=Dg g'∧(Sat b (Fg g') w'∧I g')∧μ g'<μ g
section
variable {P:Program} {ro:Option Nat} {N:Nat} {Q:Exit→Act→World→Prop} {E:List (Nat × Value)} {ds:List Deferred} {b:World} {F:List SP}
theorem Nn {S:Type} {c:Code} (Eg:S→List (Nat × Value)) (Dg:S→List Deferred) (Fg:S→List SP) (I:S→Prop) (μ:S→Nat) (g0:S) (hs:Sub (Eg g0) E) (hds:ds=Dg g0) (he:Ent F (Fg g0)) (h0:I g0)
  (hr:∀ g,I g→SW P ro N c (Exit.then (ab3 N b Eg Dg Fg I μ g) Q) (Eg g) (Dg g) b (Fg g)):SW P ro N (.loop c) Q E ds b F:=by
 constructor
 intro w H a hk hd bf k cs hro hb hroom;have key:∀ n g,μ g<n→∀ a w,Kn N (Eg g) a→a.defers=Dg g→(Sat b (Fg g) w∧I g) →
   ∃ e a' w',Q e a' w'∧ArrivesIn (Machine.fenced P (FR ro)) P (lone (bf.atR a (.code c :: .inLoop c::k)) cs w) bf k cs e a' w':=by
  intro n
  induction n with
  | zero => intro g h; omega
  | succ n ih =>
   intro g hg a w hk hd hJ;obtain ⟨e,a₁,w₁,hq,harr⟩:=(hr g hJ.2).1 w hJ.1 a hk hd bf (.inLoop c::k) cs hro hb hroom;cases e with
   | normal =>
    obtain ⟨g',hk',hd',hJ',hlt⟩:=hq;obtain ⟨e₂,a₂,w₂,hq₂,harr₂⟩:=ih g' (by omega) a₁ w₁ hk' hd' hJ';exact ⟨e₂,a₂,w₂,hq₂,.of_steps (StepsIn.trans harr (.one (fenced_calm hb hroom Z) stepR_inLoop)) harr₂⟩
   | exit id => exact ⟨_, a₁, w₁, hq, .pass (x := .inLoop c) Z (fun _ _ => .inl (by simp)) harr⟩
   | goto l => exact ⟨_, a₁, w₁, hq, .pass (x := .inLoop c) Z (fun _ _ => .inl (by simp)) harr⟩
   | ret => exact ⟨_, a₁, w₁, hq, .pass (x := .inLoop c) Z (fun _ _ => .inl (by simp)) harr⟩
   | panic ch => exact ⟨_, a₁, w₁, hq, .pass (x := .inLoop c) Z (fun _ _ => .inl (by simp)) harr⟩
   | outgrown => exact ⟨_, a₁, w₁, hq, .pass (x := .inLoop c) Z (fun _ _ => .inl (by simp)) harr⟩
 obtain ⟨e₂,a₂,w₂,hq₂,harr₂⟩:=key (μ g0+1) g0 (ats _) a w (hk.sub hs) (hd.trans hds) ⟨H.ent he,h0⟩;exact ⟨e₂,a₂,w₂,hq₂,.of_steps (.one (fenced_calm hb hroom Z) stepR_loop) harr₂⟩
theorem Kd {S:Type} {Eg:S→List (Nat × Value)} {Dg:S→List Deferred} {Fg:S→List SP} {I:S→Prop} {μ:S→Nat} {g:S} (g':S) (hs:Sub (Eg g') E) (hds:ds=Dg g') (he:Ent F (Fg g')) (hI:I g') (hlt:μ g'<μ g) :
  SN N (Exit.then (ab3 N b Eg Dg Fg I μ g) Q) .normal E ds b F:=⟨fun _ H _ hk hd=>⟨g',hk.sub hs,hd.trans hds,⟨H.ent he,hI⟩,hlt⟩⟩
end

def xy {α:Type} (P:Program) (m:Nat) (b:World) (ok:List α→α→List Value→SP→Prop) (J:List α→SP):Prop :=
 ∀ xs a vs A F w,ok xs a vs A→Sat b (J xs::A::F) w→Yld P m vs.toArray w fun e w'=>e = .returned (.bool true)∧Sat b (J (xs ++ [a])::A::F) w'
section
variable {α:Type} {P:Program} {ro:Option Nat} {N:Nat} {l rest:List Oper} {Q:Exit→Act→World→Prop} {E:List (Nat × Value)} {ds:List Deferred} {b:World} {F G:List SP}
 {d:Nat} {op:Op} {ty:TypeId} {pos:String} {aft:Array Edge} {g:Option (Nat × Bool)} {v:Value}
 {ok:List α→α→List Value→SP→Prop} {J:List α→SP}
theorem uo {m:Nat} {vs:List Value} {xs:List α} {a:α} {A:SP} (hY:xy P m b ok J) (hg:cl l E g=some true) (hx:fX E op=some (m,vs)) (hd:Nat.blt d N=true) (he:Ent F (J xs::A::G)) (hok:ok xs a vs A)
  (h:SO P ro N l rest Q ((d,.bool true)::E) ds b (J (xs ++ [a])::A::G)):SO P ro N l (⟨some d,op,ty,pos,aft,g⟩::rest) Q E ds b F:=⟨fun w H =>
 zV hg hx hd ((hY xs a vs A G w hok (H.ent he)).mono fun e w' ⟨he,H'⟩=>⟨_,he,h.1 w' H'⟩)⟩
theorem qs {go:Operand} {ps:Array Tmp} {asg body:Code} {gf:FuncId} {caps:List Value} (hg:ev E go=some (.func (.func gf) ⟨[]⟩ ⟨caps⟩)) [Bodied P gf] (ok:List α→α→List Value→SP→Prop) (Fg:List α→List SP) (F1:List SP) (T:List α→List SP→Prop)
  (he:Ent F (Fg []++F1)) (hps:ps.toList.all (fun p=>Nat.blt p N)=true) (hok:∀ xs a vs A,ok xs a vs A→vs.length=ps.size)
  (hb:∀ m D xs a vs A F0 R,ok xs a vs A→(∀ w,Sat b (lpP m .ready ps asg body N E::ob D (.deferred (some []))::(Fg (xs ++ [a])++A::F0)) w→R (.returned (.bool true)) w) →
   SW P (some m) N asg (Asg P m body R) (zW ps.toList vs E) [] b (lpP m .ready ps asg body N E::ob D (.deferred (some []))::(Fg xs++A::F0)))
  (hgf:∀ m J,xy P m b ok J→SC P gf (.func (.yield m) ⟨[]⟩ ⟨[]⟩::caps) b (J []::F1) (fun _ F'=>∃ xs F2,F'=J xs::F2∧T xs F2))
  (h:∀ D xs F2,T xs F2→SN N Q .normal E (rh D::ds) b (ob D (.deferred (some []))::(Fg xs++F2))):SW P none N (.rangeFunc go ps asg body) Q E ds b F:=by
 constructor
 intro w H;refine wy hg ?_;intro r h1 h2 h3 h4 h5 h6 h7
 let m:=w.heap.size+1
 let D:=w.heap.size
 let J:List α→SP:=fun xs=>all (lpP m .ready ps asg body N E::ob D (.deferred (some []))::Fg xs)
 have hY:xy P m b ok J:=by
  intro xs a vs A F0 w1 ho H1;have H2:Sat b (lpP m .ready ps asg body N E::ob D (.deferred (some []))::(Fg xs++A::F0)) w1:=H1.ent k9;obtain ⟨hh,l1,r1,hr1,e1,e2,e3,e4,e5,e6⟩:=H2.mem.get (k:=0) Z;refine kB (N:=N) (E:=E) (l1 m _ hr1) (by rw [e3];exact hok _ _ _ _ ho) (fun p hp=> ?_) e6 ?_
  ·rw [e3] at hp;have:=aqm.1 hps p hp;exact aqb this
  ·rw [e3,e4,e5];exact (hb m D xs a vs A F0 _ ho (fun w2 H3=>⟨rfl,H3.ent (ee (G:=_::_::Fg (xs ++ [a])))⟩)).1 w1 H2
 have H0:Sat b (J []::F1) ((w.alloc (.deferred (some []))).alloc (.loop r)):=by
  have a1:=(H.ent he).newOb (.deferred (some []));have a2:=a1.newOb (.loop r);have a3:Sat b (lpP m .ready ps asg body N E::ob D (.deferred (some []))::(Fg []++F1)) ((w.alloc (.deferred (some []))).alloc (.loop r)) :=
   a2.ent (mo 0 Z (fun hh hx=>⟨r,by simpa [m,ob] using hx,h1,h2,h3,h4,h5,h7⟩) Z)
  exact a3.ent (ee (G:=_::_::Fg []))
 refine (hgf m J hY _ H0).mono ?_;rintro e w3 ⟨v,F',rfl,⟨xs,F2,rfl,hT⟩,H3⟩;have H4:Sat b (lpP m .ready ps asg body N E::ob D (.deferred (some []))::(Fg xs++F2)) w3:=H3.ent k9;obtain ⟨hh,l1,r1,hr1,e1,e2,e3,e4,e5,e6⟩:=H4.mem.get (k:=0) Z;refine ⟨⟨v,rfl⟩,r1,l1 m _ hr1,by rw [e1];simp,?_⟩;rw [e2];have H5:Sat b (lpP m .exhausted ps asg body N E::ob D (.deferred (some []))::(Fg xs++F2)) (w3.putObj m (.loop {r1 with state:= .exhausted})) :=
  H4.putPi (k:=0) Z (fun h ⟨r',hr',_⟩=>by rw [hr'];simp) (fun h hh=>⟨_,hh,rfl,e2,e3,e4,e5,e6⟩) Z
 rw [e2] at H5;exact (h D xs F2 hT).1 _ (H5.ent (zq 1 [] Z Z))
end

section
variable {P:Program} {tt:Nat→Option TI} [TT P tt] {ro:Option Nat} {N:Nat} {l rest:List Oper} {Q:Exit→Act→World→Prop} {E:List (Nat × Value)} {ds:List Deferred} {b:World} {F:List SP}
 {d:Nat} {op:Op} {ty:TypeId} {pos:String} {aft:Array Edge} {g:Option (Nat × Bool)} {α:Type} {K:α→Value} {ok:α→Prop} {L:List (α × Value)}
theorem Hp (q:Nat) {t k e s1 s2 gm:Nat} {z1:Value} {f1:List (Nat × Nat)} {m:Operand} (hg:cl l E g=some true) (hop:op = .call {callee:= .builtin .len,args:=#[m],argTypes:=#[t]}) (ht:tt t=some ⟨.map k e,s1,s2,z1,f1⟩) (hm:ev E m=some (.map (some gm)))
  (hF:nth F q=some (mp gm K ok L)) (hd:Nat.blt d N=true) (h:SO P ro N l rest Q ((d,.int .i64 (L.length:Nat))::E) ds b F):SO P ro N l (⟨some d,op,ty,pos,aft,g⟩::rest) Q E ds b F:=by
 subst hop;refine fc hg (fun w H=> ?_) hd h;obtain ⟨es,clock,h1,h2,h3,h4⟩:=H.mp hF;have hl:es.size=L.length:=by
  have:=ap2 List.length h2;simpa [kvs,kvl] using this
 intro ρ o hρ ho _;have h1':w.heap[gm]? = some (.map es clock):=h1;simp [execOp,ho,resolve,invoke,builtin,Builtin.len_,hρ _ _ hm,TT.run_und (P:=P) ht rfl,getObj,Sem.run,h1',goInt,hl]
theorem Y8 [DecidableEq α] {G:List SP} {a:α} (q:Nat) {t k e s1 s2 gm t2:Nat} {z1:Value} {f1:List (Nat × Nat)} {m x:Operand} (M:MK P k K ok) (ha:ok a) (hg:cl l E g=some true) (hop:op = .call {callee:= .builtin .delete,args:=#[m,x],argTypes:=#[t,t2]}) (ht:tt t=some ⟨.map k e,s1,s2,z1,f1⟩) (hm:ev E m=some (.map (some gm))) (hx:ev E x=some (K a))
  (hF:nth F q=some (mp gm K ok L)) (hG:jf F q (mp gm K ok (cU a L))=some G) (h:SO P ro N l rest Q E ds b G):SO P ro N l (⟨none,op,ty,pos,aft,g⟩::rest) Q E ds b F:=by
 subst hop;exact Ei hg (fun w H=>by obtain ⟨w',h1,h2⟩:=M4 M ht hm hx ha hF hG w H;exact ⟨w',_,h1,h2⟩) h
end

def ab4 (Q:Exit→Act→World→Prop):Exit→Act→World→Prop
 | .goto _, _, _ => False
 | e, a, w => Q e a w
section
variable {P:Program} {ro:Option Nat} {N:Nat} {Q:Exit→Act→World→Prop} {E:List (Nat × Value)} {ds:List Deferred} {b:World} {F:List SP}
theorem Ba {bf:Frame} {a:Act} {k:List Item} {cs:List Frame} {w:World} {c:Code}:step P (lone (bf.atR a (.code (.scope c)::k)) cs w) = .next (lone (bf.atR a (.code c :: .inScope c::k)) cs w):=step_lone_go (by simp [stepG,stepG.exec,Frame.atR])
theorem uZ {bf:Frame} {a:Act} {k:List Item} {cs:List Frame} {w:World} {c:Code}:step P (lone (bf.atR a (.inScope c::k)) cs w) = .next (lone (bf.atR a k) cs w):=step_lone_go (by simp [stepG,stepG.exec,Frame.atR])
theorem No {c:Code} (h:SW P ro N c (ab4 Q) E ds b F):SW P ro N (.scope c) Q E ds b F:=by
 constructor
 intro w H a hk hd bf k cs hro hb hroom;obtain ⟨e,a₁,w₁,hq,harr⟩:=h.1 w H a hk hd bf (.inScope c::k) cs hro hb hroom;have h0:StepsIn (Machine.fenced P (FR ro)) P (lone (bf.atR a (.code (.scope c)::k)) cs w) (lone (bf.atR a (.code c :: .inScope c::k)) cs w):= .one (fenced_calm hb hroom Z) Ba;cases e with
 | normal => exact ⟨.normal, a₁, w₁, hq, h0.trans (StepsIn.trans harr (.one (fenced_calm hb hroom Z) uZ))⟩
 | exit id => exact ⟨.exit id, a₁, w₁, hq, fun k' hk => h0.trans (harr.1 k' (by simp [exitTo, hk])), fun hr hk => let ⟨k₁, h1, h2⟩ := harr.2 hr (by simp [exitTo, hk]); ⟨k₁, h1, h0.trans h2⟩⟩
 | goto l => exact hq.elim
 | ret => exact ⟨_, a₁, w₁, hq, .of_steps h0 harr⟩
 | panic ch => exact ⟨_, a₁, w₁, hq, .of_steps h0 harr⟩
 | outgrown => exact ⟨_, a₁, w₁, hq, .of_steps h0 harr⟩
theorem Si (h:SN N Q .ret E ds b F):SN N (ab4 Q) .ret E ds b F:=⟨h.1⟩
theorem Np {l:Nat} (h:SN N Q .normal E ds b F):SW P ro N (.label l) Q E ds b F:=⟨fun w H a hk hd=>wpIn_label (h.1 w H a hk hd)⟩
end

theorem wI {sz:Nat}:∀ (us:List (List Value)) (k:Nat) (z:List Value),z.length=(k+us.length)*sz→(∀ u∈us,u.length=sz)→ws (fun j=>some (j*sz,sz)) z (oZ k (us.map fun c=> .agg ⟨c⟩))=some (z.take (k*sz)++us.flatten)
 | [], k, z, hz, _ => by
  rw [aro,as8] at hz;simp [oZ,ws,← hz]
 | u :: us, k, z, hz, h1 => by
  have hu:=h1 u (.head _);rw [ap3,show k+(us.length+1)=k+1+us.length by omega] at hz;have hle:(k+1)*sz≤(k+1+us.length)*sz:=ara _ (by omega);rw [ass k 1 sz,Nat.one_mul] at hle;have e1:Nat.beq (Value.agg ⟨u⟩).cells.size sz=true:=by
   have:(Value.agg ⟨u⟩).cells.size=u.length:=rfl;rw [this,hu];exact asp _
  have e2:Nat.ble (k*sz+sz) z.length=true:=asd (by omega);have e3:(Value.agg ⟨u⟩).cells.toList=u:=rfl;show (match some (k*sz,sz) with
   | some (off, size) => (match Nat.beq (Value.agg ⟨u⟩).cells.size size, Nat.ble (off + size) z.length with
    | true, true => ws _ (spl z off (Value.agg ⟨u⟩).cells.toList) (oZ (k + 1) (us.map fun c => .agg ⟨c⟩))
    | _, _ => none)
   | none => none) = _
  simp only [e1,e2,e3];have hl:(spl z (k*sz) u).length=(k+1+us.length)*sz:=by rw [ug (by omega)];exact hz
  rw [wI us (k+1) _ hl fun x hx=>h1 x (.tail _ hx)];have hk:(z.take (k*sz)).length=k*sz:=by rw [ap7];omega
  have e4:(spl z (k*sz) u).take ((k+1)*sz)=z.take (k*sz)++u:=by
   have e5:spl z (k*sz) u=(z.take (k*sz)++u)++z.drop (k*sz+u.length):=by simp [spl]
   rw [e5,arl (by rw [aps,hk,hu,ass,Nat.one_mul])]
  rw [e4,ar4,ap0]
section
variable {P:Program} {tt:Nat→Option TI} [TT P tt] {ro:Option Nat} {N:Nat} {l rest:List Oper} {Q:Exit→Act→World→Prop} {E:List (Nat × Value)} {ds:List Deferred} {b:World} {F:List SP}
 {d:Nat} {op:Op} {ty:TypeId} {pos:String} {aft:Array Edge} {g:Option (Nat × Bool)}
theorem Nq:∀ (parts:List (Nat × Operand)) (vs:List (Nat × Value)),evp E parts=some vs→(parts.map fun p=>ev E p.2)=vs.map (fun p=>some p.2)∧parts.map (·.1)=vs.map (·.1):=by
 intro parts
 induction parts with
 | nil => intro vs h; simp [evp] at h; subst h; simp
 | cons p parts ih =>
  obtain ⟨k,x⟩:=p;intro vs h;simp only [evp] at h
  split at h
  ·rename_i v r h1 h2
   cases h;obtain ⟨i1,i2⟩:=ih r h2;simp [h1,i1,i2]
  ·cases h
theorem Hq (us:List (List Value)) {t len e s1 s2:Nat} {z1:Value} {f1:List (Nat × Nat)} {i:TI} {parts:List (Nat × Operand)} (hg:cl l E g=some true) (hop:op = .buildSlice t len ⟨parts⟩) (ht:tt t=some ⟨.slice e,s1,s2,z1,f1⟩) (he:tt e=some i) (hp:evp E parts=some (oZ 0 (us.map fun c=> .agg ⟨c⟩))) (hl:len=us.length) (hm:len*i.size≤16777216) (h1:∀ u∈us,u.length=i.size) (hd:Nat.blt d N=true)
  (h:∀ g',SO P ro N l rest Q ((d,.slice (some ⟨g',0,none⟩) len len)::E) ds b (pt g' e us.flatten::F)):SO P ro N l (⟨some d,op,ty,pos,aft,g⟩::rest) Q E ds b F:=by
 subst hop;obtain ⟨q1,q2⟩:=Nq _ _ hp;exact ⟨fun w H=>fm hg (kw (cells:=us.flatten) ht he q1 q2 hm fun z hz=>by
  have:=wI us 0 z (by rw [aqy,hz,hl]) h1;simpa using this) hd ((h w.heap.size).1 _ (H.alloc (Fr.alloc w _) (Blk.new w e us.flatten) (aqp _)))⟩
end

def ab5:TypeDesc→Bool
 | .func _ _ _ => true
 | _ => false
def wJ:Value→Option Bool
 | .nilFunc => some true
 | .func _ _ _ => some false
 | _ => none
section
variable {P:Program} {tt:Nat→Option TI} [TT P tt] {E:List (Nat × Value)} {ty:TypeId}
theorem E7 {w:World} {t:Nat} {ps rs:Array Nat} {v:Bool} {u:Value} {r:Bool} (h:(underlying t).run P w = .ok (.func ps rs v) w) (hu:wJ u=some r):(binOp .eql t u .nilFunc).run P w = .ok (.bool r) w:=by
 have h1:∀ d:Nat,(Op.equalIn (d+1) t u .nilFunc).run P w = .ok r w:=fun d=>by
  unfold wJ at hu
  split at hu
  ·cases hu;simp [Op.equalIn,h]
  ·cases hu;simp [Op.equalIn,h]
  ·cases hu
 have h2:(Op.equal t u .nilFunc).run P w = .ok r w:=h1 9999;unfold wJ at hu
 split at hu
 ·simp only [binOp];simp [h2]
 ·simp only [binOp];simp [h2]
 ·cases hu
theorem E8 {w:World} {t:Nat} {x y:Operand} {u:Value} {r:Bool} (hu:wJ u=some r):(eqGuard .eql t x y u .nilFunc).run P w = .ok () w:=by
 unfold wJ at hu;unfold eqGuard
 split at hu
 ·simp
 ·simp
 ·cases hu
theorem Bb {t t':Nat} {x y:Operand} {i:TI} {u:Value} {r:Bool} (ht:tt t=some i) (hi:ab5 i.desc=true) (hx:ev E x=some u) (hu:wJ u=some r) (hy:ev E y=some .nilFunc):Pu P E (.binOp .eql t x y t') ty (.bool r):=by
 intro w ρ o hρ ho _;have hd:∃ ps rs v,i.desc = .func ps rs v:=by
  unfold ab5 at hi
  split at hi
  ·rename_i e;exact ⟨_,_,_,e⟩
  ·cases hi
 obtain ⟨ps,rs,v,hd⟩:=hd;have hun:=TT.run_und (P:=P) ht (by rw [hd];rfl) w;rw [hd] at hun;simp [execOp,ho,hρ _ _ hx,hρ _ _ hy,E8 hu,E7 hun hu,Result.andThen]
end

section
variable {P:Program} {tt:Nat→Option TI} [TT P tt] {N:Nat} {E:List (Nat × Value)} {ds:List Deferred} {b:World} {F G:List SP} {fn:Func} {R:Value→List SP→Prop}
structure SQ (P:Program) (fn:Func) (N:Nat) (R:Value→List SP→Prop) (E:List (Nat × Value)) (ds:List Deferred) (b:World) (F:List SP):Prop where
 run:∀ w,Sat b F w→∀ a:Act,Kn N E a→LeavesInM (FR none) 0 P fn a.tmps (r6 b R) ds .returning w
theorem yB (h:SQ P fn N R E ds b F):SN N (bodyPostM (FR none) 0 P fn (r6 b R)) .ret E ds b F:=⟨fun w H a hk hd=>by
 show LeavesInM (FR none) 0 P fn a.tmps _ a.defers .returning w;rw [hd];exact h.run w H a hk⟩
theorem Sj (h:SQ P fn N R E ds b F):SN N (bodyPostM (FR none) 0 P fn (r6 b R)) .normal E ds b F:=⟨fun w H a hk hd=>by
 show LeavesInM (FR none) 0 P fn a.tmps _ a.defers .returning w;rw [hd];exact h.run w H a hk⟩
theorem yC {rs:List ResultVar} {vs:List Value} (hr:fn.results=⟨rs⟩) (hv:Res tt E F rs vs) (he:Ent F G) (h:R (pA vs) G):SQ P fn N R E [] b F:=⟨fun _ H _ hk=>jD hr hv he h hk H⟩
theorem Hr {D:Nat} (h:SQ P fn N R E ds b F):SQ P fn N R E (rh D::ds) b (ob D (.deferred (some []))::F):=⟨fun w H a hk =>
 ⟨by simp,.inl ⟨D,_,rfl,run_takeDeferred (H.ob (k:=0) Z),h.run _ ((H.putOb (k:=0) (o':= .deferred none) Z Z).ent (zq 1 [] Z Z)) a hk⟩⟩⟩
def Bc (Ds:List Nat):SP:=all (Ds.map fun D=>ob D (.deferred (some [])))
theorem Sk {D:Nat} {Ds:List Nat} {F:List SP}:Ent (ob D (.deferred (some []))::Bc Ds::F) (Bc (D::Ds)::F):=by
 refine Ent.trans (Ent.trans (zq 2 [1,0] Z Z) <| (k9 (G:=Ds.map fun D=>ob D (.deferred (some [])))).trans ?_) (ee (G:=ob D (.deferred (some []))::Ds.map fun D=>ob D (.deferred (some []))));exact kh (aqz)
theorem Nr {Ds:List Nat} (h:SQ P fn N R E ds b F):SQ P fn N R E (Ds.map rh++ds) b (Ds.map (fun D=>ob D (.deferred (some [])))++F):=by
 induction Ds with
 | nil => exact h
 | cons D Ds ih => exact Hr ih
theorem E9 (he:Ent F G) (h:SQ P fn N R E ds b G):SQ P fn N R E ds b F:=⟨fun w H=>h.run w (H.ent he)⟩
theorem Y9 {Ds:List Nat} (h:SQ P fn N R E ds b F):SQ P fn N R E (Ds.map rh++ds) b (Bc Ds::F):=E9 k9 (Nr h)
end
end Go.Eng
namespace Go.Eng
open Go Go.RowKit

def SCR (P:Program) (f:FuncId) (args:List Value) (b:World) (F:List SP) (R:Value→List SP→Prop):Prop :=
 ∀ w,Sat b F w→CallsDIn (FR none) 0 P f args.toArray .returning w fun e u' w'=>u' = .returning∧r6 b R e w'
section
variable {P:Program} {N:Nat} {E:List (Nat × Value)} {ds:List Deferred} {b:World} {F G:List SP} {fn:Func} {R:Value→List SP→Prop}
theorem Ns {f0:FuncId} {cap xs:List Value} {R1:Value→List SP→Prop} [hb:Bodied P f0] (hs:SCR P f0 (xs++cap) b F R1) (h:∀ v F',R1 v F'→SQ P fn N R E ds b F'):SQ P fn N R E (⟨.fn (.func f0) ⟨cap⟩,⟨xs⟩⟩::ds) b F:=⟨fun w H a hk=>by
 refine ⟨by simp,.inr ⟨fun h=>by simp [Fence.wide] at h,_,_,f0,(xs++cap).toArray,rfl,?_,fun g _=>trivial,?_⟩⟩
 ·have:=hb.run (xs++cap).toArray w;simpa [invoke] using this
 ·refine (hs w H).mono ?_;rintro e u' w' ⟨rfl,v,F',rfl,h1,h2⟩;exact (h v F' h1).run w' h2 a hk⟩
variable {f:FuncId} {args:List Value}
theorem Sl {ops:Array Oper} {i:Nat} {o:Oper} {l:List Nat} {Q:Exit→Act→List Frame→World→Prop} {a:Act} {cs:List Frame} {w:World} (ho:ops[i]? = some o) (hw:Region.wanted o (yielded ops a.tmps)=true) (hr:(execOp a.eval o).run P w = .ok .recover w) (hc:recoverD cs=none) (h:wpOpsSIn (FR none) 0 P ops Q l (a.put o.dst .nilIface) cs w):wpOpsSIn (FR none) 0 P ops Q (i::l) a cs w:=by
 unfold wpOpsSIn;simp only [ho];refine ⟨fun _ _=>trivial,?_⟩;rw [if_pos hw];simp only [hr,hc];exact h
theorem Sm {ops:Array Oper} {i:Nat} {o:Oper} {l:List Nat} {Q:Exit→Act→List Frame→World→Prop} {a:Act} {cs:List Frame} {w:World} {v:Value} (ho:ops[i]? = some o) (hw:Region.wanted o (yielded ops a.tmps)=true) (hr:(execOp a.eval o).run P w = .ok (.value v) w) (h:wpOpsSIn (FR none) 0 P ops Q l (a.put o.dst v) cs w):wpOpsSIn (FR none) 0 P ops Q (i::l) a cs w:=by
 unfold wpOpsSIn;simp only [ho];refine ⟨fun _ _=>trivial,?_⟩;rw [if_pos hw];simp only [hr];exact h
theorem Za {i d0 d1 ty0 ty1:Nat} {p0 p1:String} {af0 af1:Array Edge} {rest:Code} (hf:P.funcs[f]? = some fn)
  (hb:fn.body=some (.seq (.region i ⟨[⟨some d0,.call {callee:= .builtin .recover,args:=#[],argTypes:=#[]},ty0,p0,af0,none⟩,⟨some d1,.assign (.tmp d0),ty1,p1,af1,none⟩]⟩ false) rest)) (hn:Nat.ble args.length fn.ntmps=true) (h0:Nat.blt d0 fn.ntmps=true) (h1:Nat.blt d1 fn.ntmps=true)
  (hE:uV 0 args=E) (h:SW P none fn.ntmps rest (bodyPost P fn (r6 b R)) ((d1,.nilIface)::(d0,.nilIface)::E) [] b F):SCR P f args b F R:=by
 intro w H;refine callsDIn_of_wpSIn hf hb trivial fun c₀ cs hmode=> ?_;have hn':=aqb hn;have hk:Kn fn.ntmps E {tmps:=args.toArray++Array.replicate (fn.ntmps - args.toArray.size) undef,defers:= []}:=by
  subst hE;refine ⟨by simp;omega,fun i v hi=> ?_⟩;obtain ⟨_,h2⟩:=fW _ _ _ _ hi;simp only [atq] at h2;have hlt:i<args.length:=(ap4.1 h2).1;rw [apv hlt] at h2;simp only [apx] at h2;simp [Array.getElem?_append,hlt,h2]
 have hd0:({tmps:=args.toArray++Array.replicate (fn.ntmps - args.toArray.size) undef,defers:= []}:Act).defers = []:=rfl;generalize ({tmps:=args.toArray++Array.replicate (fn.ntmps - args.toArray.size) undef,defers:= []}:Act)=a0 at hk hd0;refine wpSIn_seq <| wpSIn_region ?_;have hrec:recoverD (c₀::cs)=none:=by simp [recoverD,hmode]
 have e0:(execOp a0.eval ⟨some d0,.call {callee:= .builtin .recover,args:=#[],argTypes:=#[]},ty0,p0,af0,none⟩).run P w = .ok .recover w:=by
  simp [execOp,resolve,invoke,builtin]
 have hk1:=hk.put (v:= .nilIface) h0;have e1:(execOp (a0.put (some d0) .nilIface).eval ⟨some d1,.assign (.tmp d0),ty1,p1,af1,none⟩).run P w = .ok (.value .nilIface) w:=by
  have:=hk1.ev (x:= .tmp d0) (v:= .nilIface) (by simp [Eng.ev,kg]);simp [execOp,this]
 have hk2:=hk1.put (v:= .nilIface) h1;have hfin:rest.wpSIn (FR none) 0 P (bodyPostS P fn c₀ cs fun e u' w'=>u' = .returning∧r6 b R e w') ((a0.put (some d0) .nilIface).put (some d1) .nilIface) (c₀::cs) w:=by
  refine wpSIn_of_wpIn Z (Code.wpIn_mono ?_ (h.1 w H _ hk2 (by rw [nh,nh,hd0])));have hc:({c₀ with mode:= .returning}:Frame)=c₀:=by rw [← hmode]
  intro e a' w' hq;cases e with
  | normal =>
   obtain ⟨q1,v,q2,q3⟩:=hq;exact ⟨q1,.returning,by rw [hc],v,q2,rfl,q3⟩
  | ret =>
   obtain ⟨q1,v,q2,q3⟩:=hq;exact ⟨q1,.returning,by rw [hc],v,q2,rfl,q3⟩
  | panic ch =>
   obtain ⟨q1,q2⟩:=hq;exact ⟨q1,.returning,by rw [hc],rfl,q2⟩
  | outgrown => exact ⟨.returning, rfl, hq⟩
  | exit _ => exact hq.elim
  | goto _ => exact hq.elim
 have w0:∀ t,Region.wanted ⟨some d0,.call {callee:= .builtin .recover,args:=#[],argTypes:=#[]},ty0,p0,af0,none⟩ t=true:=fun _=>rfl
 have w1:∀ t,Region.wanted ⟨some d1,.assign (.tmp d0),ty1,p1,af1,none⟩ t=true:=fun _=>rfl
 exact Sl (i:=0) (l:= [1]) Z (w0 _) e0 hrec (Sm (i:=1) (l:= []) Z (w1 _) e1 hfin)
theorem Zb {w:World} {t:Nat} (hu:P.underlying t=some (.interface (P.methodsAt t))):(binOp .neq t .nilIface .nilIface).run P w = .ok (.bool false) w:=by
 have h:(Op.equal t .nilIface .nilIface).run P w = .ok true w:=run_equal_nil_nil w t hu;simp only [binOp];simp [h]
theorem ab6 {t t':Nat} {x:Operand} {ty:TypeId} (hu:P.underlying t=some (.interface (P.methodsAt t))) (hx:ev E x=some .nilIface):Pu P E (.binOp .neq t x (.const .nilIface) t') ty (.bool false):=by
 intro w ρ o hρ ho _;have hy:ρ (.const .nilIface) = .nilIface:=hρ _ _ Z;have hg:(eqGuard .neq t x (.const .nilIface) .nilIface .nilIface).run P w = .ok () w:=by unfold eqGuard;simp
 simp [execOp,ho,hρ _ _ hx,hy,hg,Zb hu,Result.andThen]
end
end Go.Eng
