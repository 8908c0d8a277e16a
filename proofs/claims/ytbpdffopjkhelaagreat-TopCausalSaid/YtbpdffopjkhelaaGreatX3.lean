/- The engine, part twenty-six: a drawn region whose first part is unordered (new memory, calls): each operation's fact from the values of those that it names; then the rest in the order of the text. Conditions: as part seven. -/
import Derived.Test.YtbpdffopjkhelaaGreatX2
import Derived.Deep.Slices
import Derived.Laws.CopyRow
import Derived.Lib.Overlaps
import Derived.Test.YtbpdffopjkhelaaGreatX1
namespace Go.Eng
open Go Go.RowKit

inductive FD where
 | val (v : Value)
 | new (t : Nat) (zs : List Value)
def vv (D:List FD) (vs:Nat→Value) (j:Nat):Value:=match nth D j with | some (.val v)=>v | _=>vs j
section
variable {P:Program} {tt:Nat→Option TI} [TT P tt] {ro:Option Nat} {N n:Nat} {l rest:List Oper} {Q:Exit→Act→World→Prop} {E E0:List (Nat × Value)} {ds:List Deferred} {b:World} {F F0:List SP} {fl:Oper→Bool}

variable {D:List FD} {d:Nat} {op:Op} {ty:TypeId} {pos:String} {aft:Array Edge} {g:Option (Nat × Bool)} {v:Value}
end
end Go.Eng
namespace Go.Eng
open Go Go.RowKit

section
variable {P:Program} {ro:Option Nat} {l:List Oper} {Q:Exit→Act→World→Prop} {N:Nat} {ds:List Deferred} {E0:List (Nat × Value)} {fl:Oper→Bool}

end
end Go.Eng
namespace Go.Eng
open Go Go.RowKit

section
variable {P:Program} {tt:Nat→Option TI} [TT P tt] {ro:Option Nat} {N n:Nat} {C:List Nat} {l rest:List Oper} {Q:Exit→Act→World→Prop} {E E0:List (Nat × Value)} {ds:List Deferred} {b:World} {F F0:List SP} {fl:Oper→Bool}

variable {D:List FD} {d:Nat} {op:Op} {ty:TypeId} {pos:String} {aft:Array Edge} {g:Option (Nat × Bool)} {v:Value}
end
end Go.Eng
namespace Go.Eng
open Go Go.RowKit

section
variable {P:Program} {tt:Nat→Option TI} [TT P tt] {ro:Option Nat} {N:Nat} {l rest:List Oper} {Q:Exit→Act→World→Prop} {E:List (Nat × Value)} {ds:List Deferred} {b:World} {F F0 G:List SP} {fl:Oper→Bool} {kk:Nat}
 {d:Nat} {op:Op} {ty:TypeId} {pos:String} {aft:Array Edge} {g:Option (Nat × Bool)} {v:Value}
theorem Cf {t g' off e sz n cap at':Nat} {x:Operand} {i:TI} {cs vs:List Value} (q o:Nat) (ht:tt t=some i) (hagg:ri i.desc=true) (hx:ev E x=some (.pointer (some ⟨g',at',none⟩))) (hat:at'=off+o) (hF:nth F q=some (row e sz (.slice (some ⟨g',off,none⟩) n cap) n cs)) (hn:0<n)
  (hv:(cs.drop o).take i.size=vs) (hl:vs.length=i.size):∀ w,Sat b F w→Ex P E (.load t x) ty w (.agg ⟨vs⟩) w:=fun w H=>by
 obtain ⟨A,c,hv',h1,h2,h3,h4,h5⟩:=H.sl hF;simp only [Value.slice.injEq] at hv';obtain ⟨rfl,_,rfl⟩:=hv';obtain ⟨b',off',hA,_,hc⟩:=h5 hn;cases hA;subst hat;refine cg ht hagg hx hl fun j hj=> ?_;have hj2:j<i.size:=by omega
 have e1:vs[j]? = cs[o+j]?:=by
  rw [← hv,aoq,if_pos hj2,aow]
 rw [e1,apv];refine hc (o+j) ?_;have:(cs[o+j]?).isSome:=by rw [← e1,am8 hj];rfl
 rcases ap3 (o+j) cs.length with h | h
 ·exact h
 ·rw [aps h] at this;cases this
theorem vw {t g' off e sz n cap at':Nat} {x:Operand} {i:TI} {cs vs:List Value} (q o:Nat) (hg:da l E g=some true) (hop:op = .load t x) (ht:tt t=some i) (hagg:ri i.desc=true) (hx:ev E x=some (.pointer (some ⟨g',at',none⟩))) (hF:nth F q=some (row e sz (.slice (some ⟨g',off,none⟩) n cap) n cs)) (hd:Nat.blt d N=true) (hat:at'=off+o) (hn:0<n)
  (hv:(cs.drop o).take i.size=vs) (hl:vs.length=i.size) (h:SO P ro N l rest Q ((d,.agg ⟨vs⟩)::E) ds b F):SO P ro N l (⟨some d,op,ty,pos,aft,g⟩::rest) Q E ds b F:=by
 subst hop;exact fc hg (Cf q o ht hagg hx hat hF hn hv hl) hd h
theorem j5 {t g' off e sz n cap at':Nat} {x:Operand} {i:TI} {cs vs:List Value} (q o:Nat) (hg:da l E g=some true) (hop:op = .load t x) (ht:tt t=some i) (hagg:ri i.desc=true) (hx:ev E x=some (.pointer (some ⟨g',at',none⟩))) (hF:nth F0 q=some (row e sz (.slice (some ⟨g',off,none⟩) n cap) n cs)) (hf:fl ⟨some d,op,ty,pos,aft,g⟩=true) (hd:Nat.blt d N=true)
  (hat:at'=off+o) (hn:0<n) (hv:(cs.drop o).take i.size=vs) (hl:vs.length=i.size) (h:SD P fl ro N F0 l (kk+1) rest Q ((d,.agg ⟨vs⟩)::E) ds b F):SD P fl ro N F0 l kk (⟨some d,op,ty,pos,aft,g⟩::rest) Q E ds b F:=by
 subst hop;exact ij hg (Cf q o ht hagg hx hat hF hn hv hl) hf hd h
theorem me {t g' off e sz n cap:Nat} {x y:Operand} {i:TI} {cs vs cs':List Value} (k o:Nat) (hg:da l E g=some true) (hf:fl ⟨none,op,ty,pos,aft,g⟩=false) (hop:op = .store t x y) (ht:tt t=some i) (hx:ev E x=some (.pointer (some ⟨g',off,none⟩))) (hy:ev E y=some v) (hz:su v=some vs)
  {o0:Nat} (hF:nth F k=some (row e sz (.slice (some ⟨g',o0,none⟩) n cap) n cs)) (hG:jl F k (row e sz (.slice (some ⟨g',o0,none⟩) n cap) n cs')=some G) (hc:spl cs o vs=cs') (hs:Nat.beq vs.length i.size=true) (ho:off=o0+o) (hfit:o+vs.length≤cs.length) (hv:∀ u∈vs,u.oneCell'=true) (hE:Ent G F0) (h:SD P fl ro N F0 l (kk+1) rest Q E ds b G) :
  SD P fl ro N F0 l kk (⟨none,op,ty,pos,aft,g⟩::rest) Q E ds b F:=by
 subst hop;exact B5 hg hf (B4 k ht hx hy hz hs hv hF ho hfit hc hG) hE h
theorem Iu {t e s1 s2:Nat} {z1:Value} {f1:List (Nat × Nat)} {i:TI} {x:Operand} {cs:List Value} {w:World} (ht:tt t=some ⟨.slice e,s1,s2,z1,f1⟩) (he:tt e=some i) (hx:ev E x=some v) (hz:su v=some cs) (hl:cs.length=i.size) (hs:i.size≤16777216) :
  Ex P E (.buildSlice t 1 ⟨[(0,x)]⟩) ty w (.slice (some ⟨w.heap.size,0,none⟩) 1 1) (w.alloc (.cells cs.toArray e)):=by
 have hc:=vq hz;refine kr ht he (vs:= [(0,v)]) (by simp [hx]) Z (by omega) fun z hz'=> ?_;have h1:Nat.beq v.cells.size i.size=true:=by
  have:v.cells.size=i.size:=by rw [← hl,← hc];simp
  rw [this];exact aqn _
 have h2:Nat.ble i.size z.length=true:=aqb (by omega);simp only [ye,h1,hc,spl,Nat.zero_mul,ap4,aos,aob];rw [aog (by omega),anv,h2]
theorem lr {t e s1 s2:Nat} {z1:Value} {f1:List (Nat × Nat)} {i:TI} {x:Operand} {cs:List Value} (hg:da l E g=some true) (hop:op = .buildSlice t 1 ⟨[(0,x)]⟩) (ht:tt t=some ⟨.slice e,s1,s2,z1,f1⟩) (he:tt e=some i) (hx:ev E x=some v) (hz:su v=some cs) (hd:Nat.blt d N=true) (hl:cs.length=i.size) (hs:i.size≤16777216)
  (h:∀ g',SO P ro N l rest Q ((d,.slice (some ⟨g',0,none⟩) 1 1)::E) ds b (pt g' e cs::F)):SO P ro N l (⟨some d,op,ty,pos,aft,g⟩::rest) Q E ds b F:=by
 subst hop;exact ⟨fun w H=>ek hg (Iu ht he hx hz hl hs) hd ((h w.heap.size).1 _ (H.alloc (Fr.alloc w _) (Blk.new w e cs) (aoc _)))⟩
theorem gS {t e s1 s2:Nat} {z1:Value} {f1:List (Nat × Nat)} {i:TI} {x:Operand} {cs:List Value} (hg:da l E g=some true) (hf:fl ⟨some d,op,ty,pos,aft,g⟩=false) (hop:op = .buildSlice t 1 ⟨[(0,x)]⟩) (ht:tt t=some ⟨.slice e,s1,s2,z1,f1⟩) (he:tt e=some i) (hx:ev E x=some v) (hz:su v=some cs) (hd:Nat.blt d N=true) (hl:cs.length=i.size) (hs:i.size≤16777216) (hE:Ent F F0)
  (h:∀ g',SD P fl ro N F0 l (kk+1) rest Q ((d,.slice (some ⟨g',0,none⟩) 1 1)::E) ds b (pt g' e cs::F)):SD P fl ro N F0 l kk (⟨some d,op,ty,pos,aft,g⟩::rest) Q E ds b F:=by
 subst hop;exact ⟨fun w H=>kW hg hf (Iu ht he hx hz hl hs) ((H.ext (Fr.alloc w _)).ent hE) hd ((h w.heap.size).1 _ (H.alloc (Fr.alloc w _) (Blk.new w e cs) (aoc _)))⟩
theorem aar {t t':Nat} {i:TI} {x:Operand} (hg:da l E g=some true) (hop:op = .typeAssert x t' t false) (hx:ev E x=some (.iface t v)) (ht:tt t=some i) (hi:o5 i.desc=false) (hf:fl ⟨some d,op,ty,pos,aft,g⟩=true) (hd:Nat.blt d N=true) (h:SD P fl ro N F0 l (kk+1) rest Q ((d,v)::E) ds b F) :
  SD P fl ro N F0 l kk (⟨some d,op,ty,pos,aft,g⟩::rest) Q E ds b F:=by subst hop;exact dM hg (Vt hx ht hi) hf hd h
variable {n:Nat} {C:List Nat} {E0:List (Nat × Value)} {D:List FD}
end
end Go.Eng
namespace Go.Eng
open Go Go.RowKit

theorem X9 {P:Program} {f:FuncId} {args:List Value} {W:World} (h:SC P f args W [Is W] (fun v F'=>v = .bool true∧F' = [Is W])):Calls P f args.toArray W (fun e w'=>e = .returned (.bool true)∧Ext W w') :=
 (h W (Sat.start W)).mono fun _ _ ⟨_,_,h1,⟨h2,h3⟩,h4⟩=>by subst h2;subst h3;exact ⟨h1,h4.is (k:=0) rfl⟩
theorem Iv {α:Type} {f:α→Value} {W:World} {v:Value} {xs:List α} (h:VL f W v xs) {F:List SP} {k:Nat} (hk:nth F k=some (Is W)):∀ w,Sat W F w→VL f w v xs:=fun _ H=>h.ext (H.is hk)
section
variable {P:Program} {tt:Nat→Option TI} [TT P tt] {ro:Option Nat} {N:Nat} {l rest:List Oper} {Q:Exit→Act→World→Prop} {E:List (Nat × Value)} {ds:List Deferred} {b:World} {F G:List SP}
 {d:Nat} {op:Op} {ty:TypeId} {pos:String} {aft:Array Edge} {g:Option (Nat × Bool)} {v:Value}
theorem zC {t e s1 s2:Nat} {z1:Value} {f1:List (Nat × Nat)} {i:TI} (hg:da l E g=some true) (hop:op = .buildSlice t 0 ⟨[]⟩) (ht:tt t=some ⟨.slice e,s1,s2,z1,f1⟩) (he:tt e=some i) (hd:Nat.blt d N=true)
  (h:∀ g',SO P ro N l rest Q ((d,.slice (some ⟨g',0,none⟩) 0 0)::E) ds b (pt g' e []::F)):SO P ro N l (⟨some d,op,ty,pos,aft,g⟩::rest) Q E ds b F:=by
 subst hop;exact ⟨fun w H=>ek hg (kr (vs:= []) (cells:= []) ht he Z Z (by omega) (fun z hz=>by
  have:z = []:=an3 (by omega);subst this;rfl)) hd ((h w.heap.size).1 _ (H.alloc (Fr.alloc w _) (Blk.new w e []) (aoc _)))⟩
end
end Go.Eng
namespace Go.Eng
open Go Go.RowKit Go.ChangeShapes Go.WideShapes Go.ChangeAt Go.Deep

abbrev Rdg (α:Type):=World→List Value→α→Prop
def rdI (k:IntKind):Rdg Int:=fun _ cs n=>cs = [.int k n]∧(Lit.int k n).wf=true
def rdS:Rdg ByteArray:=fun _ cs s=>cs = [.string s]∧s.size≤maxLen
def rdL {α:Type} (sz:Nat) (R:Rdg α):Rdg (Value × List α):=fun W cs x=>cs = [x.1]∧∃ ess:List (List Value),ess.length=x.2.length∧(∀ e∈ess,e.length=sz)∧SL W sz x.1 x.2.length ess.flatten∧∀ (i:Nat) e a,ess[i]? = some e→x.2[i]? = some a→R W e a
def rdA (n:Nat) (k:IntKind):Rdg (List Int):=fun _ cs x=>cs=x.map (Value.int k)∧x.length=n∧∀ c∈x,(Lit.int k c).wf=true
def rdN {α β:Type} (n:Nat) (R:Rdg α) (S:Rdg β):Rdg (α × β):=fun W cs x=>R W (cs.take n) x.1∧S W (cs.drop n) x.2

def lI {α:Type} (P:Program) (t:TypeId) (R:Rdg α):Prop:=∀ (H:Type) (enc:TypeId × Value→H) (W:World) (base:Nat) (spare:Nat→Bool) (held:Bool) (fuel:Nat) (cs:List Value) y,DataW.trod enc P W base spare held fuel t cs=some y→∃ x,R W cs x
variable {P:Program}
theorem x8 {t:TypeId} {k:IntKind} (ht:P.underlying t=some (.int k)):lI P t (rdI k):=by
 intro H enc W base spare held fuel cs y h;cases fuel with
 | zero => simp [DataW.trod] at h
 | succ n =>
  unfold DataW.trod at h;rw [ht] at h
  split at h <;> simp_all
  exact ⟨_,⟨by obtain ⟨⟨rfl,_⟩,_⟩:=h;rfl,h.1.2⟩⟩
theorem xD {t:TypeId} (ht:P.underlying t=some .string):lI P t rdS:=by
 intro H enc W base spare held fuel cs y h;cases fuel with
 | zero => simp [DataW.trod] at h
 | succ n =>
  unfold DataW.trod at h;rw [ht] at h
  split at h <;> simp_all
  exact ⟨_,⟨rfl,h.1⟩⟩
theorem Cg {sz:Nat}:∀ {ess:List (List Value)},(∀ e∈ess,e.length=sz)→∀ (i k:Nat),k<sz→ess.flatten[i*sz+k]? = (ess[i]?).bind (·[k]?)
 | [], _, i, k, _ => by simp
 | e :: ess, h, 0, k, hk => by
  have:=h e (by simp);simp only [aqh,Nat.zero_mul,aob];rw [aot (by omega)];rfl
 | e :: ess, h, i + 1, k, hk => by
  have he:=h e (by simp);have ih:=Cg (ess:=ess) (fun x hx=>h x (by simp [hx])) i k hk;simp only [aqh];rw [apu (by rw [he,ap1];omega),he,show (i+1)*sz+k - sz=i*sz+k by rw [ap1];omega,ih];rfl
theorem rX {sz:Nat}:∀ {ess:List (List Value)},(∀ e∈ess,e.length=sz)→ess.flatten.length=ess.length*sz
 | [], _ => by simp
 | e :: ess, h => by
  have ih:=rX (ess:=ess) (fun x hx=>h x (by simp [hx]));simp only [aqh,am9,h e (by simp),ih,anp,ap1];omega
theorem nV {β α:Type} (p:Nat→β→α→Prop):∀ n,(∀ i,i<n→∃ c x,p i c x)→∃ (cs:List β) (xs:List α),cs.length=n∧xs.length=n∧∀ i c x,cs[i]? = some c→xs[i]? = some x→p i c x
 | 0, _ => ⟨[], [], rfl, rfl, by simp⟩
 | n + 1, h => by
  obtain ⟨cs,xs,h1,h2,h3⟩:=nV p n fun i hi=>h i (by omega)
  obtain ⟨c,x,hp⟩:=h n (by omega);refine ⟨cs ++ [c],xs ++ [x],by simp [h1],by simp [h2],fun i c' x' e1 e2=> ?_⟩;rcases Nat.lt_trichotomy i n with hi | rfl | hi
  ·rw [aot (by omega)] at e1 e2;exact h3 i c' x' e1 e2
  ·rw [apu (by omega),h1] at e1;rw [apu (by omega),h2] at e2;simp at e1 e2;subst e1;subst e2;exact hp
  ·have:=(ann.1 e1).1;simp at this;omega
theorem yp {α:Type} {R:Rdg α} {t e:TypeId} {sz:Nat} (ht:P.underlying t=some (.slice e)) (hsz:P.cellsOf e=sz) (h0:0<sz) (he:lI P e R):lI P t (rdL sz R):=by
 intro H enc W base spare held fuel cs y h;rcases open_slice ht h with ⟨rfl,_⟩ | ⟨a,len,cap,m,n,D,Pl,rfl,_,hc,hm,hmm,_,hel⟩
 ·exact ⟨(.slice none 0 0,[]),rfl,[],rfl,by simp,⟨none,0,rfl,by simp,aoc _,anq _,fun _=>rfl,fun h=>absurd h (Nat.lt_irrefl 0)⟩,by simp⟩
 have hlm:len≤m:=by rw [hmm];split <;> omega
 rw [hsz] at hel;obtain ⟨ess,xs,e1,e2,e3⟩:=nV (fun i c x=>W.cells? base (a.add (i*sz)) sz=some c∧R W c x) len fun i hi=>by
  obtain ⟨cs',h1,h2⟩:=hel i (by omega);obtain ⟨x,hx⟩:=he _ _ _ _ _ _ _ _ _ h2;exact ⟨cs',x,h1,hx⟩
 have hlen:∀ c∈ess,c.length=sz:=fun c hc=>by
  obtain ⟨i,hi,rfl⟩:=ao0.1 hc;have:=(e3 i _ _ (am8 hi) (am8 (l:=xs) (i:=i) (by omega))).1;exact (World.cells?_some this).2.1
 refine ⟨(.slice (some a) len cap,xs),rfl,ess,by dsimp only;omega,hlen,⟨some a,cap,by rw [e2],by rw [rX hlen,e1,e2],by dsimp only;omega,hm,by simp,fun hn=> ?_⟩,fun i c x h1 h2=>(e3 i c x h1 h2).2⟩;rw [e2] at hn;have hcell:∀ i k,i<len→k<sz→W.cell? (a.add (i*sz+k))=ess.flatten[i*sz+k]?:=fun i k hi hk=>by
  have hi':i<ess.length:=by omega
  have:=(e3 i _ _ (am8 hi') (am8 (l:=xs) (i:=i) (by omega))).1;have h2:=(World.cells?_some this).2.2 k hk;rw [Cg hlen i k hk,am8 hi',Option.bind_some,← h2];rw [Addr.add_add]
 obtain ⟨b,off,spot⟩:=a;have h00:=hcell 0 0 hn h0;have hfl:=rX hlen;have hpos:0<ess.flatten.length:=by rw [hfl,e1];exact Nat.mul_pos hn h0
 have hc0:W.cell? ⟨b,off,spot⟩=some ess.flatten[0]:=by
  rw [← am8 hpos];simpa [Addr.add] using h00
 have hspot:spot=none:=World.cell?_spot hc0;subst hspot;refine ⟨b,off,rfl,World.block_lt_of_cell? W _ hc0,fun j hj=> ?_⟩;rw [hfl,e1] at hj;have hdm:j / sz*sz+j % sz=j:=by rw [Nat.mul_comm];exact Nat.div_add_mod j sz
 have:=hcell (j / sz) (j % sz) (Nat.div_lt_of_lt_mul (by rw [Nat.mul_comm];exact hj)) (Nat.mod_lt _ h0);rw [hdm] at this;rw [← this];congr 1;unfold Addr.add;split <;> simp_all
theorem xE {t e:TypeId} {n:Nat} {k:IntKind} (ht:P.underlying t=some (.array n e)) (hu:P.underlying e=some (.int k)) (he:P.cellsOf e=1) (hn:P.cellsOf t=n):lI P t (rdA n k):=by
 intro H enc W base spare held fuel cs y h;cases fuel with
 | zero => simp [DataW.trod] at h
 | succ m =>
  unfold DataW.trod at h;rw [ht] at h;dsimp only at h;rw [hn,he] at h;by_cases hl:cs.length=n
  ·rw [if_pos hl] at h;simp only [Option.map_eq_some_iff] at h;obtain ⟨xs,hp,_⟩:=h;have key:∀ i,i<n→∃ (_:Unit) (x:Int),cs[i]? = some (.int k x)∧(Lit.int k x).wf=true:=fun i hi=>by
    have h1:=mapM_some_get hp i i (by simp [hi]);have hlt:i<xs.length:=by rw [mapM_some_length hp];simpa using hi
    rw [am8 hlt] at h1;obtain ⟨z,hz⟩:=x8 hu _ _ _ _ _ _ _ _ _ h1;refine ⟨(),z,?_,hz.2⟩;have h2:((cs.drop (i*1)).take 1)[0]? = some (.int k z):=by rw [hz.1];rfl
    simpa using h2
   obtain ⟨us,zs,u1,z2,z3⟩:=nV (fun i (_:Unit) (x:Int)=>cs[i]? = some (.int k x)∧(Lit.int k x).wf=true) n key;have hz:∀ i (hi:i<n),cs[i]? = some (.int k (zs[i]'(by omega)))∧(Lit.int k (zs[i]'(by omega))).wf=true:=fun i hi =>
    z3 i () _ (am8 (l:=us) (by omega)) (am8 (by omega))
   refine ⟨zs,?_,z2,fun c hc=> ?_⟩
   ·apply aqy;intro i;by_cases hi:i<n
    ·rw [(hz i hi).1,apj,am8 (by omega)];rfl
    ·rw [aps (by omega),aps (by simp;omega)]
   ·obtain ⟨i,hi,rfl⟩:=ao0.1 hc;exact (hz i (by omega)).2
  ·rw [if_neg hl] at h;cases h
inductive OpF (P:Program) : {α:Type}→List Field→Nat→Nat→Rdg α→Prop
 | one {α : Type} {f : Field} {o n : Nat} {R : Rdg α} (h1 : f.offset = o) (h2 : P.cellsOf f.type = n) (h : lI P f.type R) : OpF P [f] o n R
 | cons {α β : Type} {f : Field} {fs : List Field} {o n m : Nat} {R : Rdg α} {S : Rdg β} (h1 : f.offset = o) (h2 : P.cellsOf f.type = n) (h : lI P f.type R) (hs : OpF P fs (o + n) m S) : OpF P (f :: fs) o (n + m) (rdN n R S)
theorem zD {α:Type} {fs:List Field} {o m:Nat} {R:Rdg α} (h:OpF P fs o m R):∀ {H:Type} {enc:TypeId × Value→H} {W:World} {base:Nat} {spare:Nat→Bool} {held:Bool} {fuel:Nat} {cs:List Value},cs.length=o+m →
  (∀ (i:Nat) f,fs[i]? = some f→∃ y,DataW.trod enc P W base spare held fuel f.type ((cs.drop f.offset).take (P.cellsOf f.type))=some y)→∃ x,R W (cs.drop o) x:=by
 induction h with
 | @one α f o n R h1 h2 h =>
  intro H enc W base spare held fuel cs hl hf;obtain ⟨y,hy⟩:=hf 0 _ Z;rw [h1,h2,an1 (by rw [aoi];omega)] at hy;exact h _ _ _ _ _ _ _ _ _ hy
 | @cons α β f fs o n m R S h1 h2 h hs ih =>
  intro H enc W base spare held fuel cs hl hf;obtain ⟨y,hy⟩:=hf 0 _ Z;rw [h1,h2] at hy;obtain ⟨x1,hx1⟩:=h _ _ _ _ _ _ _ _ _ hy;obtain ⟨x2,hx2⟩:=ih (fuel:=fuel) (spare:=spare) (base:=base) (held:=held) (enc:=enc) (cs:=cs) (W:=W) (by omega) fun i f hf'=>hf (i+1) f hf'
  exact ⟨(x1,x2),hx1,by rw [arm];exact hx2⟩
theorem lJ {α:Type} {R:Rdg α} {t:TypeId} {fs:List Field} {m:Nat} (ht:P.underlying t=some (.struct ⟨fs⟩)) (hsz:P.cellsOf t=m) (h:OpF P fs 0 m R):lI P t R:=by
 intro H enc W base spare held fuel cs y hy;obtain ⟨xs,n,_,_,hl,hx,hf⟩:=DataW.trod_struct ht hy;have:=zD h (enc:=enc) (W:=W) (base:=base) (spare:=spare) (held:=held) (fuel:=n) (cs:=cs) (by omega) fun i f hf'=>by
  have h1:=hf i f (by simpa using hf');have hi:i<xs.length:=by
   have:=(ann.1 hf').1;simp at hx;omega
  rw [am8 hi] at h1;exact ⟨_,h1⟩
 simpa using this
theorem Ch {α:Type} {R:Rdg α} {t:TypeId} (ho:lI P t R) {H:Type} {enc:TypeId × Value→H} {W:World} {base:Nat} {spare:Nat→Bool} {held:Bool} {v:Value} {d:DataW H} {ps:List MemPlace} (h:DataW.Trod enc P W base spare held t v d ps):∃ x,R W v.cells.toList x:=by
 obtain ⟨fuel,hf⟩:=h;exact ho _ _ _ _ _ _ _ _ _ hf
end Go.Eng
namespace Go.Eng
open Go Go.RowKit

theorem rY (z:Value) (n:Nat):(madeCells #[z] (n*1)).toList=List.replicate n z:=by
 apply aqr
 ·simp [madeCells]
 ·intro i h1 h2;simp [madeCells,Nat.mod_one]
section
variable {P:Program} {tt:Nat→Option TI} [TT P tt] {ro:Option Nat} {N:Nat} {l rest:List Oper} {Q:Exit→Act→World→Prop} {E:List (Nat × Value)} {ds:List Deferred} {b:World} {F G:List SP}
 {d:Nat} {op:Op} {ty:TypeId} {pos:String} {aft:Array Edge} {g:Option (Nat × Bool)} {v:Value}
theorem zE {t e n sz s1 s2:Nat} {z1:Value} {f1:List (Nat × Nat)} {i:TI} {x y:Operand} {m:Int} {cs:List Value} (hg:da l E g=some true) (hd:Nat.blt d N=true) (hop:op = .makeSlice t x y)
  (ht:tt t=some ⟨.slice e,s1,s2,z1,f1⟩) (he:tt e=some i) (hi:(Nat.beq i.size sz&&Nat.ble i.bytes 2097152)=true)
  (hx:ev E x=some (.int .i64 m)) (hy:ev E y=some (.int .i64 m)) (hm:m=(n:Int)) (hn:n≤67108864) (hcs:(madeCells i.zero.cells (n*sz)).toList=cs)
  (h:∀ g',SO P ro N l rest Q ((d,.slice (some ⟨g',0,none⟩) n n)::E) ds b (row e sz (.slice (some ⟨g',0,none⟩) n n) n cs::F)):SO P ro N l (⟨some d,op,ty,pos,aft,g⟩::rest) Q E ds b F:=by
 subst hcs;exact ⟨fun w H=>Il hg hd hop ht he hi hx hy hm hn (aoc _) fun w' hmine hext=>(h w.heap.size).1 w' (H.newOat hext (j9.oat hmine))⟩
end
end Go.Eng
namespace Go.Eng
open Go Go.RowKit

section
variable {P:Program} {ro:Option Nat} {l:List Oper} {Q:Exit→Act→World→Prop} {S:World→Prop} {fl:Oper→Bool} {y:Nat} {oy:Oper}

def AN (P:Program) (fl:Oper→Bool) (ro:Option Nat) (l:List Oper) (S:World→Prop) (Q:Exit→Act→World→Prop) (oy:Oper) (R:List Nat) (a:Act) (w:World):Prop :=
 Eff P ro oy a w fun v w'=>S w'∧Tx P fl ro l S Q R (a.put oy.dst v) w'
def T1 (P:Program) (fl:Oper→Bool) (ro:Option Nat) (l:List Oper) (S:World→Prop) (Q:Exit→Act→World→Prop) (y:Nat) (oy:Oper):List Nat→Act→World→Prop
 | [], a, w => AN P fl ro l S Q oy [] a w
 | i :: R, a, w => AN P fl ro l S Q oy (i :: R) a w ∧ ((pv l i).contains y = false → ∃ o, l[i]? = some o ∧
   (Region.wanted o (yielded l.toArray a.tmps)=true →
    (fl o=true∧∃ v,(∀ W,S W→(execOp a.eval o).run P W = .ok (.value v) W)∧T1 P fl ro l S Q y oy R (a.put o.dst v) w) ∨
    (fl o=false∧Eff P ro o a w fun v w'=>S w'∧T1 P fl ro l S Q y oy R (a.put o.dst v) w')) ∧
   (Region.wanted o (yielded l.toArray a.tmps)=false→T1 P fl ro l S Q y oy R (a.put o.dst undef) w))
end
end Go.Eng
namespace Go.Eng
open Go Go.RowKit

section
variable {P:Program} {tt:Nat→Option TI} [TT P tt] {ro:Option Nat} {N:Nat} {l rest:List Oper} {Q:Exit→Act→World→Prop} {E:List (Nat × Value)} {ds:List Deferred} {b:World} {F F0 G:List SP} {fl:Oper→Bool} {k:Nat}
 {y dy t:Nat} {zs:List Value} {oy o:Oper}

theorem Si (A:List SP):Ent (F++A) F:=by
 rintro m ⟨H,a,b,c⟩;refine ⟨H,a,b,fun i X hX=>c i X ?_⟩;rw [cG];have:i<F.length:=by rw [lw] at hX;exact (ann.1 hX).1
 rw [if_pos this];exact hX
def Tm (P:Program) (fl:Oper→Bool) (ro:Option Nat) (l:List Oper) (S:World→Prop) (Q:Exit→Act→World→Prop) (y:Nat) (oy:Oper) (R:List Nat) (m:Option Nat) (a:Act) (w:World):Prop :=
 (m=none→T1 P fl ro l S Q y oy R a w)∧(m.isSome=true→Tx P fl ro l S Q R a w)
def Hd (P:Program) (fl:Oper→Bool) (ro:Option Nat) (l:List Oper) (S:World→Prop) (Q:Exit→Act→World→Prop) (y:Nat) (oy:Oper) (k:Nat) (R:List Nat) (m:Option Nat) (a:Act) (w:World):Prop :=
 ∃ o,l[k]? = some o∧(Region.wanted o (yielded l.toArray a.tmps)=true →
  (fl o=true∧∃ v,(∀ W,S W→(execOp a.eval o).run P W = .ok (.value v) W)∧Tm P fl ro l S Q y oy R m (a.put o.dst v) w) ∨
  (fl o=false∧Eff P ro o a w fun v w'=>S w'∧Tm P fl ro l S Q y oy R m (a.put o.dst v) w')) ∧
  (Region.wanted o (yielded l.toArray a.tmps)=false→Tm P fl ro l S Q y oy R m (a.put o.dst undef) w)
variable {d:Nat} {op:Op} {ty:TypeId} {pos:String} {aft:Array Edge} {g:Option (Nat × Bool)} {v:Value}
end
end Go.Eng
namespace Go.Eng
open Go Go.RowKit

section
variable {P:Program} {tt:Nat→Option TI} [TT P tt] {ro:Option Nat} {N:Nat} {l rest:List Oper} {Q:Exit→Act→World→Prop} {E:List (Nat × Value)} {ds:List Deferred} {b:World} {F F0 G:List SP} {fl:Oper→Bool} {kk:Nat}
 {d:Nat} {op:Op} {ty:TypeId} {pos:String} {aft:Array Edge} {g:Option (Nat × Bool)} {v:Value}
theorem aP {e sz n c gg off k:Nat} {cs:List Value} {u:Value} (hk:nth F k=some (row e sz (.slice (some ⟨gg,off,none⟩) n c) n cs)) {j:Nat} (hj:cs[j]? = some u):∀ w,Sat b F w→w.cell? ⟨gg,off+j,none⟩=some u:=fun w H=>by
 obtain ⟨A,c',hv,hl,_,_,_,hc⟩:=H.sl hk;simp only [Value.slice.injEq,true_and] at hv;obtain ⟨rfl,rfl⟩:=hv;have hlt:j<cs.length:=(ann.1 hj).1;have h0:0<n:=by
  rcases aoo n with h | h
  ·subst h;rw [hl] at hlt;omega
  ·exact h
 obtain ⟨bb,off',hA,_,hcell⟩:=hc h0;cases hA;rw [hcell j hlt,hj]
variable {k:Nat} {y dy tv:Nat} {zs:List Value} {oy:Oper}
end
end Go.Eng
namespace Go.Eng
open Go Go.RowKit

def cat:List (List Value)→List Value
 | [] => []
 | [a] => a
 | a :: l => a ++ cat l
theorem eM (a:List Value) (l:List (List Value)):cat (a::l)=a++cat l:=by
 cases l with
 | nil => simp [cat]
 | cons b l => rfl
def Kv (zs:List Value):List (Nat × Nat)→List (List Value)
 | [] => []
 | (o, n) :: l => (zs.drop o).take n :: Kv zs l
def pd:List (List Value)→Nat→List Value→List (List Value)
 | [], _, _ => []
 | _ :: l, 0, c => c :: l
 | a :: l, k + 1, c => a :: pd l k c
def Nj:Nat→List (Nat × Nat)→Nat→Bool
 | o, [], t => Nat.beq o t
 | o, (q, n) :: l, t => Nat.beq o q && Nj (o + n) l t
def zc:Value→List Value
 | .agg ⟨cs⟩ => cs
 | v => [v]
theorem Vu (v:Value):v.cells.toList=zc v:=by cases v <;> rfl
def Nk (pl:List (Nat × Nat)):List (Nat × Value)→Prop
 | [] => True
 | (k, v) :: l => (match nth pl k with | some p => (zc v).length = p.2 | none => False) ∧ Nk pl l
def Iw (s:List (List Value)):List (Nat × Value)→List (List Value)
 | [] => s
 | (k, v) :: l => Iw (pd s k (zc v)) l
def Kw:Nat→List (Nat × Nat)→List (List Value)→Prop
 | _, [], [] => True
 | o, (q, n) :: pl, a :: s => o = q ∧ a.length = n ∧ Kw (o + n) pl s
 | _, _, _ => False
theorem xF {zs:List Value}:∀ {pl:List (Nat × Nat)} {o t:Nat},Nj o pl t=true→t=zs.length→Kw o pl (Kv zs pl)∧cat (Kv zs pl)=zs.drop o
 | [], o, t, h, ht => by
  have:=an0 h;exact ⟨trivial,by rw [Kv,cat,aog (by omega)]⟩
 | (q, n) :: pl, o, t, h, ht => by
  simp only [Nj,anw] at h;obtain ⟨h1,h2⟩:=h;have:=an0 h1;subst this;obtain ⟨i1,i2⟩:=xF h2 ht;have hle:o+n≤t:=by
   clear i1 i2 ht;revert h2;generalize o+n=m
   induction pl generalizing m with
   | nil => intro h2; have := an0 h2; omega
   | cons p pl ih =>
    intro h2;obtain ⟨q,n'⟩:=p;simp only [Nj,anw] at h2;have:=ih _ h2.2;omega
  refine ⟨⟨rfl,by rw [anm,aoi];omega,i1⟩,?_⟩;rw [Kv,eM,i2,← arm,an9]
theorem Ci:∀ {pl:List (Nat × Nat)} {s:List (List Value)} {o k:Nat} {p:Nat × Nat} {c:List Value},Kw o pl s→nth pl k=some p→c.length=p.2→Kw o pl (pd s k c)∧o≤p.1∧spl (cat s) (p.1 - o) c=cat (pd s k c)∧(p.1 - o)+p.2≤(cat s).length
 | [], _, _, _, _, _, _, h, _ => by simp [nth] at h
 | (q, n) :: pl, [], _, _, _, _, h, _, _ => h.elim
 | (q, n) :: pl, a :: s, o, 0, p, c, h, hp, hc => by
  obtain ⟨rfl,h2,h3⟩:=h;simp only [nth,ane] at hp;subst hp;dsimp only at hc;refine ⟨⟨rfl,hc,h3⟩,aoc _,?_,?_⟩
  ·simp only [pd,eM,spl,Nat.sub_self,ap4,aos,aob];rw [hc,← h2,List.drop_left]
  ·rw [eM,am9,h2,Nat.sub_self];dsimp only;omega
 | (q, n) :: pl, a :: s, o, k + 1, p, c, h, hp, hc => by
  obtain ⟨rfl,h2,h3⟩:=h;simp only [nth] at hp;obtain ⟨i1,i2,i3,i4⟩:=Ci h3 hp hc;refine ⟨⟨rfl,h2,i1⟩,by omega,?_,?_⟩
  ·simp only [pd,eM,← i3,spl];have e:p.1 - o=a.length+(p.1 - (o+n)):=by omega
   rw [e,List.take_append,an1 (by omega),ao8,apv,List.drop_append,aog (by omega),aos,ao8,anh]
  ·rw [eM,am9];omega
theorem xG {pl:List (Nat × Nat)}:∀ {vs:List (Nat × Value)} {s:List (List Value)},Kw 0 pl s→Nk pl vs→ye (nth pl) (cat s) vs=some (cat (Iw s vs))
 | [], _, _, _ => rfl
 | (k, v) :: vs, s, h, hc => by
  obtain ⟨h1,h2⟩:=hc;cases hp:nth pl k with
  | none => rw [hp] at h1; exact h1.elim
  | some p =>
   rw [hp] at h1;dsimp only at h1;obtain ⟨i1,_,i3,i4⟩:=Ci h hp h1;rw [Nat.sub_zero] at i3 i4;have e1:v.cells.size=p.2:=by rw [← h1,← Vu,aok]
   obtain ⟨off,size⟩:=p;dsimp only at *;have b1:Nat.beq v.cells.size size=true:=by rw [e1];exact aqn _
   have b2:Nat.ble (off+size) (cat s).length=true:=aqb i4;simp only [ye,hp,b1,b2,Iw];rw [Vu,i3];exact xG i1 h2
def Sj (tt:Nat→Option TI) (E:List (Nat × Value)):Op→Option (Prop × Value)
 | .build t ⟨parts⟩ => match tt t with
  | some ⟨.struct _, _, _, .agg ⟨zs⟩, fs⟩ => match eF tt fs, evp E parts with
   | some pl, some vs => match Nj 0 pl zs.length with
    | true => some (Nk pl vs, .agg ⟨cat (Iw (Kv zs pl) vs)⟩)
    | false => none
   | _, _ => none
  | _ => none
 | _ => none
section
variable {P:Program} {tt:Nat→Option TI} [TT P tt] {ro:Option Nat} {N:Nat} {l rest:List Oper} {Q:Exit→Act→World→Prop} {E:List (Nat × Value)} {ds:List Deferred} {b:World} {F F0 G:List SP} {fl:Oper→Bool} {kk:Nat}
 {d:Nat} {op:Op} {ty:TypeId} {pos:String} {aft:Array Edge} {g:Option (Nat × Bool)} {v:Value}
theorem sA {c:Prop} (h:Sj tt E op=some (c,v)) (hc:c):Pu P E op ty v:=by
 apply uw (tt:=tt);unfold Sj at h
 split at h
 ·rename_i t parts
  split at h
  ·rename_i n s1 s2 zs fs h1
   split at h
   ·rename_i pl vs h2 h3
    split at h
    ·rename_i h4
     simp only [ane,an6] at h;obtain ⟨rfl,rfl⟩:=h;obtain ⟨f1,f2⟩:=xF (zs:=zs) h4 Z;have:=xG f1 hc;rw [f2,arn] at this;simp only [My,h1,h2,h3,this]
    ·cases h
   ·cases h
  ·cases h
 ·cases h
theorem Sk {c:Prop} (hg:da l E g=some true) (hx:Sj tt E op=some (c,v)) (hd:Nat.blt d N=true) (hc:c) (h:SO P ro N l rest Q ((d,v)::E) ds b F):SO P ro N l (⟨some d,op,ty,pos,aft,g⟩::rest) Q E ds b F:=nq hg (sA hx hc) hd h
theorem aas {c:Prop} (hg:da l E g=some true) (hx:Sj tt E op=some (c,v)) (hf:fl ⟨some d,op,ty,pos,aft,g⟩=true) (hd:Nat.blt d N=true) (hc:c) (h:SD P fl ro N F0 l (kk+1) rest Q ((d,v)::E) ds b F):SD P fl ro N F0 l kk (⟨some d,op,ty,pos,aft,g⟩::rest) Q E ds b F:=dM hg (sA hx hc) hf hd h
end
end Go.Eng
namespace Go.Eng
open Go Go.RowKit

def exP {S:Type} (p:S→Prop) (G:S→List SP):SP:=fun h=>∃ s,p s∧kZ (G s) h
section
variable {S:Type} {p:S→Prop} {G:S→List SP} {F:List SP} {b:World}
theorem sB {w:World} (H:Sat b (exP p G::F) w):∃ s,p s∧Sat b (G s++F) w:=by
 obtain ⟨K,a,b',c⟩:=H.mem;obtain ⟨s,hs,hS⟩:=c 0 _ Z;refine ⟨s,hs,H.os,H.tape,H.output,sk _ ⟨K,a,b',fun i A hA=> ?_⟩⟩;cases i with
 | zero => cases hA; exact hS
 | succ i => exact c (i + 1) A hA
theorem j6 (s:S) (hs:p s):Ent (G s++F) (exP p G::F):=eg.trans (q7 0 Z (fun _ hh=>⟨s,hs,hh⟩) Z)
variable {P:Program} {f:FuncId} {args:List Value} {R R':Value→List SP→Prop}
theorem SC.opn (h:∀ s,p s→SC P f args b (G s++F) R):SC P f args b (exP p G::F) R:=fun w H=>by
 obtain ⟨s,hs,H'⟩:=sB H;exact h s hs w H'
theorem SC.out (h:SC P f args b F R) (hr:∀ v F',R v F'→∃ G,Ent F' G∧R' v G):SC P f args b F R':=fun w H=>(h w H).mono fun _ _ ⟨v,F',h1,h2,h3⟩=>by
 obtain ⟨G,hG,hR⟩:=hr v F' h2;exact ⟨v,G,h1,hR,h3.ent hG⟩
end
section
variable {S:Type} {p:S→Prop} {G:S→List SP}
variable {P:Program} {ro:Option Nat} {N:Nat} {l rest:List Oper} {Q:Exit→Act→World→Prop} {E:List (Nat × Value)} {ds:List Deferred} {b:World} {F:List SP} {e:Exit} {c:Code}
theorem Ya (h:∀ s,p s→SW P ro N c Q E ds b (G s++F)):SW P ro N c Q E ds b (exP p G::F):=⟨fun w H=>by
 obtain ⟨s,hs,H'⟩:=sB H;exact (h s hs).1 w H'⟩
theorem Yb (h:∀ s,p s→SN N Q e E ds b (G s++F)):SN N Q e E ds b (exP p G::F):=⟨fun w H=>by
 obtain ⟨s,hs,H'⟩:=sB H;exact (h s hs).1 w H'⟩
end
end Go.Eng
namespace Go.Eng
open Go Go.RowKit

section
variable {P:Program} {tt:Nat→Option TI} [TT P tt] {ro:Option Nat} {N:Nat} {l rest:List Oper} {Q:Exit→Act→World→Prop} {E:List (Nat × Value)} {ds:List Deferred} {b:World} {F F0:List SP} {fl:Oper→Bool} {kk:Nat}
 {d:Nat} {op:Op} {ty:TypeId} {pos:String} {aft:Array Edge} {g:Option (Nat × Bool)}
end
end Go.Eng
namespace Go.Eng
open Go Go.RowKit

def ob (g:Nat) (o:Obj):SP:=fun h=>h g=some o
section
variable {b w w':World} {F G:List SP} {k g:Nat} {o o':Obj} {A:SP}
theorem Sat.ob (H:Sat b F w) (hk:nth F k=some (ob g o)):w.heap[g]? = some o:=by
 obtain ⟨h1,l,hA⟩:=H.mem.get hk;exact l g o hA
theorem Sat.newOb (H:Sat b F w) (o:Obj):Sat b (Go.Eng.ob w.heap.size o::F) (w.alloc o) :=
 H.new (Fr.alloc w o) (yg (h:=ph _) (heap_alloc_new w o)) (fun i hi=>by rw [yh hi];exact aoc _) (yi _ _)
theorem Sat.putPi {B:SP} (H:Sat b F w) (hk:nth F k=some A) (hA:∀ h,A h→h g≠none) (hB:∀ h,h g=some o'→B h) (hG:jl F k B=some G):Sat b G (w.putObj g o'):=by
 refine H.upd k hk (Fr.putObj w g o') (fun h1 l hh=> ?_) hG;have hg:=hA h1 hh;have hlt:g<w.heap.size:=by
  cases hx:h1 g with
  | none => exact absurd hx hg
  | some o => exact eI (l g o hx)
 exact ⟨fun i _ hi=>by subst hi;exact hg,_,yg (h:=ph (w.putObj g o')) (World.putObj_heap_same hlt),hB _ (yi g _),fun i hi=> .inl (by rw [yh hi];exact hg)⟩
theorem Sat.putOb (H:Sat b F w) (hk:nth F k=some (Go.Eng.ob g o)) (hG:jl F k (Go.Eng.ob g o')=some G):Sat b G (w.putObj g o') :=
 H.putPi hk (fun h hh=>by rw [show h g=_ from hh];simp) (fun h hh=>hh) hG
theorem Kx (k:Nat) (hk:nth F k=some A):∃ F',Ent F (A::F')∧∀ B G,jl F k B=some G→Ent (B::F') G:=by
 have hs:∀ (F:List SP) k A,nth F k=some A→∃ F',jl F k (fun _=>True)=some F':=by
  intro F
  induction F with
  | nil => intro k A h; cases h
  | cons x F ih =>
   intro k A h;cases k with
   | zero => exact ⟨_, rfl⟩
   | succ k => obtain ⟨F', hF'⟩ := ih k A h; exact ⟨x :: F', by simp only [jl, hF']⟩
 obtain ⟨F',hF'⟩:=hs F k A hk;refine ⟨F',?_,?_⟩
 ·rintro m ⟨H,a,b',c⟩;refine ⟨fun j=>match j with | 0=>H k | j+1=>if j=k then fun _=>none else H j,fun i=> ?_,fun i j hij=> ?_,fun i C hC=> ?_⟩
  ·cases i with
   | zero => exact a k
   | succ i =>
    dsimp only
    split
    ·intro _ _ e;cases e
    ·exact a i
  ·have key:∀ j,apt (H k) ((fun j=>if j=k then (fun _=>none:PH) else H j) j):=by
    intro j;dsimp only;split
    ·exact fun _=> .inr Z
    ·rename_i hne;exact b' k j (Ne.symm hne)
   cases i with
   | zero => cases j with
    | zero => exact absurd Z hij
    | succ j => exact key j
   | succ i => cases j with
    | zero => exact (key i).symm
    | succ j =>
     dsimp only;split
     ·exact fun _=> .inl Z
     ·split
      ·exact fun _=> .inr Z
      ·exact b' i j (by omega)
  ·cases i with
   | zero => simp only [nth, ane] at hC; subst hC; exact c k A hk
   | succ i =>
    simp only [nth] at hC;rw [eJ hF'] at hC;dsimp only;split at hC
    ·cases hC;trivial
    ·rename_i hne;rw [if_neg hne];exact c i C hC
 ·intro B G hG;rintro m ⟨H,a,b',c⟩;refine ⟨fun j=>if j=k then H 0 else H (j+1),fun i=> ?_,fun i j hij=> ?_,fun i C hC=> ?_⟩
  ·dsimp only;split <;> exact a _
  ·dsimp only;split
   ·rename_i e1;split
    ·rename_i e2;exact absurd (e1.trans e2.symm) hij
    ·exact b' _ _ (by omega)
   ·split
    ·exact b' _ _ (by omega)
    ·exact b' _ _ (by omega)
  ·rw [eJ hG] at hC;dsimp only;split at hC
   ·rename_i e1;cases hC;rw [if_pos e1];exact c 0 _ Z
   ·rename_i e1;rw [if_neg e1]
    exact c (i+1) _ (by simp only [nth];rw [eJ hF',if_neg e1];exact hC)
end

section
variable {P:Program} {tt:Nat→Option TI} [TT P tt] {ro:Option Nat} {N:Nat} {l rest:List Oper} {Q:Exit→Act→World→Prop} {E:List (Nat × Value)} {ds:List Deferred} {b:World} {F G:List SP}
 {d:Nat} {op:Op} {ty:TypeId} {pos:String} {aft:Array Edge} {g:Option (Nat × Bool)} {v:Value}
theorem xH {t:Nat} {x:Operand} {s:ByteArray} {i:TI} (hg:da l E g=some true) (hop:op = .range t x) (ht:tt t=some i) (hi:i.desc = .string) (hx:ev E x=some (.string s)) (hd:Nat.blt d N=true)
  (h:∀ g',SO P ro N l rest Q ((d,.pointer (some ⟨g',0,none⟩))::E) ds b (ob g' (.stringIter s 0)::F)):SO P ro N l (⟨some d,op,ty,pos,aft,g⟩::rest) Q E ds b F:=⟨fun w H=>by
 subst hop;refine ek hg ?_ hd ((h w.heap.size).1 _ (H.newOb _));intro ρ o hρ hop' _;simp [execOp,hop',Instr.range,hρ _ _ hx,TT.run_und (P:=P) ht (by rw [hi];rfl),hi]⟩
theorem Cj {x:Operand} {s:ByteArray} {g' p:Nat} (k:Nat) (hg:da l E g=some true) (hop:op = .next x true) (hx:ev E x=some (.pointer (some ⟨g',0,none⟩))) (hF:nth F k=some (ob g' (.stringIter s p))) (hd:Nat.blt d N=true) (hlt:p<s.size)
  (hG:jl F k (ob g' (.stringIter s (p+(Utf8.decode s p).2)))=some G)
  (h:SO P ro N l rest Q ((d,.tuple ⟨[.bool true,.int .i64 (p:Int),.int .i32 ((Utf8.decode s p).1:Int)]⟩)::E) ds b G):SO P ro N l (⟨some d,op,ty,pos,aft,g⟩::rest) Q E ds b F:=⟨fun w H=>by
 subst hop;have hh:=H.ob hF;refine ek hg ?_ hd (h.1 _ (H.putOb hF hG));intro ρ o hρ hop' _;simp [execOp,hop',Instr.next,hρ _ _ hx,getObj,setObj,Sem.run,hh,hlt,World.putObj,goInt]⟩
theorem xI {x:Operand} {s:ByteArray} {g' p:Nat} (k:Nat) (hg:da l E g=some true) (hop:op = .next x true) (hx:ev E x=some (.pointer (some ⟨g',0,none⟩))) (hF:nth F k=some (ob g' (.stringIter s p))) (hd:Nat.blt d N=true) (hle:s.size≤p)
  (h:SO P ro N l rest Q ((d,.tuple ⟨[.bool false]⟩)::E) ds b F):SO P ro N l (⟨some d,op,ty,pos,aft,g⟩::rest) Q E ds b F:=⟨fun w H=>by
 subst hop;have hh:=H.ob hF;refine ek hg ?_ hd (h.1 _ H);intro ρ o hρ hop' _;simp [execOp,hop',Instr.next,hρ _ _ hx,getObj,Sem.run,hh,Nat.not_lt.2 hle]⟩
end

section
variable {P:Program} {tt:Nat→Option TI} [TT P tt] {N:Nat} {l rest:List Oper} {Q:Exit→Act→World→Prop} {E:List (Nat × Value)} {ds:List Deferred} {b w:World} {F G:List SP}
 {d:Nat} {op:Op} {ty:TypeId} {pos:String} {aft:Array Edge} {g:Option (Nat × Bool)} {v:Value}
end
section
variable {P:Program} {tt:Nat→Option TI} [TT P tt] {N:Nat} {E:List (Nat × Value)} {b:World} {F G:List SP} {fn:Func} {R:Value→List SP→Prop} {f:FuncId} {c:Code} {args:List Value}
theorem Sl (hf:P.funcs[f]? = some fn) (hb:fn.body=some c) (hn:Nat.ble args.length fn.ntmps=true) {E:List (Nat × Value)} (hE:Bm 0 args=E) (h:SW P none fn.ntmps c (bodyPostM (FR none) 0 P fn (iZ b R)) E [] b F):SC P f args b F R :=
 fun w H=>Mx hf hb hn (by rw [hE];exact h.1 w H)
theorem Gc {rs:List ResultVar} {vs:List Value} {a:Act} {w:World} (hr:fn.results=⟨rs⟩) (hv:Res tt E F rs vs) (he:Ent F G) (h:R (pW vs) G) (hk:Kn N E a) (H:Sat b F w):LeavesInM (FR none) 0 P fn a.tmps (iZ b R) [] .returning w:=by
 refine ⟨pW vs,?_,_,_,rfl,h,H.ent he⟩;have h2:=hv.run P H hk;have h3:(results fn a.tmps).run P w=(do let vs ← (⟨rs⟩:Array ResultVar).mapM (yY a.tmps);pure (if h:vs.size=1 then vs[0] else .tuple vs):Sem Value).run P w:=by
  simp only [results,hr]
  rfl
 rw [h3,List.mapM_toArray];simp only [Sem.run_bind,Sem.run_pure,Result.andThen,Sem.run_map,h2]
 match vs with
 | [] => rfl
 | [v] => rfl
 | _ :: _ :: _ => rfl
theorem Sm {rs:List ResultVar} {vs:List Value} {D k:Nat} {G0:List SP} (hr:fn.results=⟨rs⟩) (hD:nth F k=some (ob D (.deferred (some [])))) (hG:jl F k (ob D (.deferred none))=some G0) (hv:Res tt E G0 rs vs) (he:Ent G0 G) (h:R (pW vs) G) :
  SN N (bodyPostM (FR none) 0 P fn (iZ b R)) .ret E [cF D] b F:=by
 constructor
 intro w H a hk hd;show LeavesInM (FR none) 0 P fn a.tmps (iZ b R) a.defers .returning w;rw [hd];exact ⟨by simp,.inl ⟨D,_,rfl,run_takeDeferred (H.ob hD),Gc hr hv he h hk (H.putOb hD hG)⟩⟩
end

def lpP (m:Nat) (st:LoopState) (ps:Array Tmp) (asg body:Code) (N:Nat) (E:List (Nat × Value)):SP:=fun h=>∃ r:Loop,h m=some (.loop r)∧r.state=st∧r.pending=none∧r.params=ps∧r.assign=asg∧r.body=body∧Kn N E ⟨r.tmps,[]⟩
def sC (P:Program) (m:Nat) (b:World) (ok:List (List Value)→List Value→Prop) (J:List (List Value)→SP):Prop :=
 ∀ xs vs F w,ok xs vs→Sat b (J xs::F) w→Yld P m vs.toArray w fun e w'=>e = .returned (.bool true)∧Sat b (J (xs ++ [vs])::F) w'
section
variable {P:Program} {ro:Option Nat} {N:Nat} {l rest:List Oper} {Q:Exit→Act→World→Prop} {E:List (Nat × Value)} {ds:List Deferred} {b:World} {F G:List SP}
 {d:Nat} {op:Op} {ty:TypeId} {pos:String} {aft:Array Edge} {g:Option (Nat × Bool)} {v:Value}
 {ok:List (List Value)→List Value→Prop} {J:List (List Value)→SP}
theorem Nl {m:Nat} {vs:List Value} {xs:List (List Value)} (k:Nat) (hY:sC P m b ok J) (hg:da l E g=some true) (hx:kX E op=some (m,vs)) (hd:Nat.blt d N=true) (hF:nth F k=some (J xs)) (hok:ok xs vs) (hG:jl F k (J (xs ++ [vs]))=some G)
  (h:SO P ro N l rest Q ((d,.bool true)::E) ds b G):SO P ro N l (⟨some d,op,ty,pos,aft,g⟩::rest) Q E ds b F:=⟨fun w H=>by
 obtain ⟨F',h1,h2⟩:=Kx k hF;exact Mv hg hx hd ((hY xs vs F' w hok (H.ent h1)).mono fun e w' ⟨he,H'⟩=>⟨_,he,h.1 w' (H'.ent (h2 _ _ hG))⟩)⟩
variable {m:Nat} {ps:Array Tmp} {asg body:Code} {R:Ending→World→Prop}
theorem Yc {E0:List (Nat × Value)} (h:SW P (some m) N body (roundPost P m R) E ds b (lpP m .busy ps asg body N E0::F)):SN N (Asg P m body R) .normal E ds b (lpP m .ready ps asg body N E0::F):=by
 constructor
 intro w H;obtain ⟨h1,l1,r,hr,hst,hp,h2,h3,h4,h5⟩:=H.mem.get (k:=0) Z;refine yT (l1 m _ hr) hst (h.1 _ (H.putPi (k:=0) Z (fun h ⟨r',hr',_⟩=>by rw [hr'];simp) (fun h hh=>⟨_,hh,rfl,hp,h2,h3,h4,h5⟩) Z))
theorem Ck {E0:List (Nat × Value)} (h:∀ w,Sat b (lpP m .ready ps asg body N E0::F) w→R (.returned (.bool true)) w):SN N (roundPost P m R) .normal E ds b (lpP m .busy ps asg body N E0::F):=by
 constructor
 intro w H;obtain ⟨h1,l1,r,hr,hst,hp,h2,h3,h4,h5⟩:=H.mem.get (k:=0) Z;exact zo (l1 m _ hr) (h _ (H.putPi (k:=0) Z (fun h ⟨r',hr',_⟩=>by rw [hr'];simp) (fun h hh=>⟨_,hh,rfl,rfl,h2,h3,h4,h5⟩) Z))
end
section
variable {P:Program} {N:Nat} {Q:Exit→Act→World→Prop} {E:List (Nat × Value)} {ds:List Deferred} {b:World} {F:List SP}
theorem zF {go:Operand} {ps:Array Tmp} {asg body:Code} {gf:FuncId} {caps:List Value} (hg:ev E go=some (.func (.func gf) ⟨[]⟩ ⟨caps⟩)) [Bodied P gf] (ok:List (List Value)→List Value→Prop) (Fg:List (List Value)→List SP) (F1:List SP) (T:List (List Value)→List SP→Prop)
  (he:Ent F (Fg []++F1)) (hps:ps.toList.all (fun p=>Nat.blt p N)=true) (hok:∀ xs vs,ok xs vs→vs.length=ps.size)
  (hb:∀ m D xs vs F0 R,ok xs vs→(∀ w,Sat b (lpP m .ready ps asg body N E::ob D (.deferred (some []))::(Fg (xs ++ [vs])++F0)) w→R (.returned (.bool true)) w) →
   SW P (some m) N asg (Asg P m body R) (Fn ps.toList vs E) [] b (lpP m .ready ps asg body N E::ob D (.deferred (some []))::(Fg xs++F0)))
  (hgf:∀ m J,sC P m b ok J→SC P gf (.func (.yield m) ⟨[]⟩ ⟨[]⟩::caps) b (J []::F1) (fun _ F'=>∃ xs F2,F'=J xs::F2∧T xs F2))
  (h:∀ D xs F2,T xs F2→SN N Q .normal E (cF D::ds) b (ob D (.deferred (some []))::(Fg xs++F2))):SW P none N (.rangeFunc go ps asg body) Q E ds b F:=by
 constructor
 intro w H;refine xu hg ?_;intro r h1 h2 h3 h4 h5 h6 h7
 let m:=w.heap.size+1
 let D:=w.heap.size
 let J:List (List Value)→SP:=fun xs=>all (lpP m .ready ps asg body N E::ob D (.deferred (some []))::Fg xs)
 have hY:sC P m b ok J:=by
  intro xs vs F0 w1 ho H1;have H2:Sat b (lpP m .ready ps asg body N E::ob D (.deferred (some []))::(Fg xs++F0)) w1:=H1.ent sk;obtain ⟨hh,l1,r1,hr1,e1,e2,e3,e4,e5,e6⟩:=H2.mem.get (k:=0) Z;refine kY (N:=N) (E:=E) (l1 m _ hr1) (by rw [e3];exact hok _ _ ho) (fun p hp=> ?_) e6 ?_
  ·rw [e3] at hp;have:=an4.1 hps p hp;exact anz this
  ·rw [e3,e4,e5];exact (hb m D xs vs F0 _ ho (fun w2 H3=>⟨rfl,H3.ent (eg (G:=_::_::Fg (xs ++ [vs])))⟩)).1 w1 H2
 have H0:Sat b (J []::F1) ((w.alloc (.deferred (some []))).alloc (.loop r)):=by
  have a1:=(H.ent he).newOb (.deferred (some []));have a2:=a1.newOb (.loop r);have a3:Sat b (lpP m .ready ps asg body N E::ob D (.deferred (some []))::(Fg []++F1)) ((w.alloc (.deferred (some []))).alloc (.loop r)) :=
   a2.ent (q7 0 Z (fun hh hx=>⟨r,by simpa [m,ob] using hx,h1,h2,h3,h4,h5,h7⟩) Z)
  exact a3.ent (eg (G:=_::_::Fg []))
 refine (hgf m J hY _ H0).mono ?_;rintro e w3 ⟨v,F',rfl,⟨xs,F2,rfl,hT⟩,H3⟩;have H4:Sat b (lpP m .ready ps asg body N E::ob D (.deferred (some []))::(Fg xs++F2)) w3:=H3.ent sk;obtain ⟨hh,l1,r1,hr1,e1,e2,e3,e4,e5,e6⟩:=H4.mem.get (k:=0) Z;refine ⟨⟨v,rfl⟩,r1,l1 m _ hr1,by rw [e1];simp,?_⟩;rw [e2];have H5:Sat b (lpP m .exhausted ps asg body N E::ob D (.deferred (some []))::(Fg xs++F2)) (w3.putObj m (.loop {r1 with state:= .exhausted})) :=
  H4.putPi (k:=0) Z (fun h ⟨r',hr',_⟩=>by rw [hr'];simp) (fun h hh=>⟨_,hh,rfl,e2,e3,e4,e5,e6⟩) Z
 rw [e2] at H5;exact (h D xs F2 hT).1 _ (H5.ent (rL 1 [] Z Z))
end
end Go.Eng
namespace Go.Eng
open Go Go.RowKit

section
variable {P:Program} {tt:Nat→Option TI} [TT P tt] {ro:Option Nat} {N:Nat} {l rest:List Oper} {Q:Exit→Act→World→Prop} {E:List (Nat × Value)} {ds:List Deferred} {b:World} {F F0 G:List SP} {fl:Oper→Bool} {kk:Nat}
 {d:Nat} {op:Op} {ty:TypeId} {pos:String} {aft:Array Edge} {g:Option (Nat × Bool)} {v:Value}
end
section
variable {b:World} {F G:List SP} {e sz n g off cap:Nat} {cs:List Value}
end
end Go.Eng
namespace Go.Eng
open Go Go.RowKit Go.WideMaps

theorem jA (x:Int):(Lit.int .i64 x).wf=true↔I64 x:=by
 have h1:IntKind.i64.min = -9223372036854775808:=by decide
 have h2:IntKind.i64.max=9223372036854775807:=by decide
 simp [Lit.wf,h1,h2,I64]
def flC {α:Type} (f:α→List Value):List α→List Value
 | [] => []
 | a :: l => f a ++ flC f l
section
variable {α:Type} {f:α→List Value} {l:List α} {sz:Nat}
theorem fu (a c:List α):flC f (a++c)=flC f a++flC f c:=by
 induction a with
 | nil => rfl
 | cons x a ih => simp only [aoe, flC, ih, anh]
theorem ju (h:∀ a∈l,(f a).length=sz):(flC f l).length=l.length*sz:=by
 induction l with
 | nil => simp [flC]
 | cons x l ih =>
  have h1:=h x anl;have h2:=ih fun w hw=>h w (ank _ hw)
  simp only [flC,am9,h1,h2,anp,ap1];omega
theorem sD (h:∀ a∈l,(f a).length=sz) {i:Nat} (hi:i<l.length) {j:Nat} (hj:j<sz):(flC f l)[i*sz+j]? = (f l[i])[j]?:=by
 induction l generalizing i with
 | nil => simp at hi
 | cons x l ih =>
  have h1:=h x anl;cases i with
  | zero => simp only [flC, Nat.zero_mul, aob, aq3]; exact aot (by omega)
  | succ i =>
   simp only [flC,List.getElem_cons_succ];rw [apu (by rw [h1,ap1];omega),h1,ap1,show i*sz+sz+j - sz=i*sz+j by omega];exact ih (fun w hw=>h w (ank _ hw)) (by simpa using hi)
theorem pa (h:∀ a∈l,(f a).length=sz) {i:Nat} (hi:i<l.length):((flC f l).drop (i*sz)).take sz=f l[i]:=by
 apply aqy;intro j;rw [aoq,aow];have h1:=h _ (ana hi)
 split
 ·rename_i hj;exact sD h hi hj
 ·rename_i hj;rw [aps (by omega)]
theorem vf (h:∀ a∈l,(f a).length=sz) {i:Nat} {x:α} (hx:(f x).length=sz) (hi:i<l.length):spl (flC f l) (i*sz) (f x)=flC f (l.set i x):=by
 induction l generalizing i with
 | nil => simp at hi
 | cons y l ih =>
  have h1:=h y anl;cases i with
  | zero =>
   simp only [List.set_cons_zero,flC,spl,Nat.zero_mul,ap4,aos,aob,hx];rw [apy (by omega),aog (by omega),aos]
  | succ i =>
   have:=ih (fun w hw=>h w (ank _ hw)) (by simpa using hi);simp only [aq5,flC,← this,spl];rw [ap1,show i*sz+sz=(f y).length+i*sz by omega,aq4,show (f y).length+i*sz+(f x).length=(f y).length+(i*sz+(f x).length) by omega,List.drop_length_add_append,anh]
theorem cK (h:∀ a∈l,∀ u∈f a,u.oneCell'=true):∀ u∈flC f l,u.oneCell'=true:=by
 induction l with
 | nil => intro u hu; simp [flC] at hu
 | cons x l ih =>
  intro u hu;rcases anr.1 hu with hu | hu
  ·exact h x anl u hu
  ·exact ih (fun w hw=>h w (ank _ hw)) u hu
theorem zG {w:World} {bk off n c j:Nat} {cs:List Value} (h:SL w sz (.slice (some ⟨bk,off,none⟩) n c) n cs) (hj:j<cs.length):w.cell? ⟨bk,off+j,none⟩=cs[j]?:=by
 obtain ⟨A,c',hv,hl,_,_,_,hc⟩:=h;cases hv;obtain ⟨b',o',hA,_,hcc⟩:=hc (by
  rcases aoo n with h0 | h0
  ·subst h0;simp at hl;subst hl;simp at hj
  ·exact h0)
 cases hA;exact hcc j hj
theorem fb {w:World} {bk off c i j:Nat} (h:SL w sz (.slice (some ⟨bk,off,none⟩) l.length c) l.length (flC f l)) (hf:∀ a∈l,(f a).length=sz) (hi:i<l.length) (hj:j<sz):w.cell? ⟨bk,off+i*sz+j,none⟩=(f l[i])[j]?:=by
 rw [apv,zG h,sD hf hi hj];rw [ju hf];have:(i+1)*sz≤l.length*sz:=ao2 _ hi;rw [ap1] at this;omega
end
theorem jQ {l:List Value} (m:List Value) {n:Nat} (h:l.length=n):wp (l++m) 0 n=some l:=by
 subst h
 induction l with
 | nil => cases m <;> rfl
 | cons a l ih => simp only [aoe, anp, wp, ih]
theorem lK {α β:Type} {g:α→β} {f:β→List Value}:∀ {ess:List (List Value)} {xs:List α},ess.length=xs.length→(∀ (i:Nat) e a,ess[i]? = some e→xs[i]? = some a→e=f (g a))→ess.flatten=flC f (xs.map g)
 | [], [], _, _ => rfl
 | [], _ :: _, h, _ => by simp at h
 | _ :: _, [], h, _ => by simp at h
 | e :: ess, a :: xs, h, hh => by
  rw [aqh,hh 0 e a Z rfl,lK (by simpa using h) fun i e a h1 h2=>hh (i+1) e a h1 h2];rfl
theorem eN {α β:Type} {R:Rdg α} {g:α→β} {f:β→List Value} {p:β→Prop} {W:World} (hR:∀ cs x,R W cs x→cs=f (g x)∧p (g x)) {sz:Nat} {cs:List Value} {x:Value × List α} (h:rdL sz R W cs x):cs = [x.1]∧SL W sz x.1 (x.2.map g).length (flC f (x.2.map g))∧∀ y∈x.2.map g,p y:=by
 obtain ⟨hv,ess,e1,e2,e3,e4⟩:=h;have hf:=lK (f:=f) (g:=g) e1 fun i e a h1 h2=>(hR e a (e4 i e a h1 h2)).1
 rw [hf] at e3;refine ⟨hv,by rw [anf];exact e3,fun y hy=> ?_⟩;obtain ⟨a,ha,rfl⟩:=anb.1 hy;obtain ⟨i,hi,rfl⟩:=ao0.1 ha;exact (hR _ _ (e4 i _ _ (am8 (by omega)) (am8 hi))).2
theorem Cl {W:World} {k:IntKind} {cs:List Value} {x:Value × List Int} (h:rdL 1 (rdI k) W cs x):cs = [x.1]∧VL (Value.int k) W x.1 x.2∧∀ n∈x.2,(Lit.int k n).wf=true:=by
 obtain ⟨h1,h2,h3⟩:=eN (g:=id) (f:=fun n=> [Value.int k n]) (p:=fun n=>(Lit.int k n).wf=true) (fun cs x hx=>⟨hx.1,hx.2⟩) h;rw [List.map_id] at h2 h3;have e:∀ l:List Int,flC (fun x:Int=> [Value.int k x]) l=l.map (Value.int k):=fun l=>by
  induction l with
  | nil => rfl
  | cons x l ih => simp only [flC, ih]; rfl
 rw [e] at h2;exact ⟨h1,h2,h3⟩
theorem Gd {x:Int} (h:(Lit.int .i64 x).wf=true):I64 x:=(jA x).1 h
theorem eO {n:Nat} {cs a c:List Value} (h1:cs.take n=a) (h2:cs.drop n=c):cs=a++c:=by rw [← h1,← h2,an9]
end Go.Eng
namespace Go.Eng
open Go Go.RowKit

section
variable {P:Program} {ro:Option Nat} {l:List Oper} {Q:Exit→Act→World→Prop} {S:World→Prop} {fl:Oper→Bool}
end
section
variable {P:Program} {ro:Option Nat} {l:List Oper} {Q:Exit→Act→World→Prop} {N:Nat} {E:List (Nat × Value)} {ds:List Deferred} {w:World} {b:World} {F:List SP} {fl:Oper→Bool}
end
end Go.Eng
namespace Go.Eng
open Go Go.RowKit

section
variable {P:Program} {tt:Nat→Option TI} [TT P tt] {N:Nat} {E:List (Nat × Value)} {b:World} {F G:List SP} {fn:Func} {R:Value→List SP→Prop}
end

section
variable {P:Program} {tt:Nat→Option TI} [TT P tt] {ro:Option Nat} {N:Nat} {l rest:List Oper} {Q:Exit→Act→World→Prop} {E:List (Nat × Value)} {ds:List Deferred} {b:World} {F G:List SP}
 {d:Nat} {op:Op} {ty:TypeId} {pos:String} {aft:Array Edge} {g:Option (Nat × Bool)} {v:Value}
theorem vJ {zs:Array Value} (h:∀ u∈zs.toList,u.oneCell'=true) (n:Nat):∀ u∈(Builtin.zeroCells zs n).toList,u.oneCell'=true:=by
 intro u hu;unfold Builtin.zeroCells at hu;simp only [Array.toList_map,anb,Array.mem_toList_iff,Array.mem_range] at hu;obtain ⟨i,hi,rfl⟩:=hu;have h0:0<zs.size:=by
  rcases aoo zs.size with h0 | h0
  ·rw [h0,Nat.mul_zero] at hi;omega
  ·exact h0
 have hlt:=Nat.mod_lt i h0;rw [getElem!_pos zs _ hlt];exact h _ (by simp)
theorem Cm {t e g' off n cap j sz c' s1 s2:Nat} {z1:Value} {f1:List (Nat × Nat)} {i:TI} {zs:List Value} {A':Option Addr} {x:Operand} {cs:List Value} (k:Nat) (ht:tt t=some ⟨.slice e,s1,s2,z1,f1⟩) (he:tt e=some i) (hz:su i.zero=some zs) (hsz:Nat.beq zs.length sz=true) (hz1:zs.all (·.oneCell')=true)
  (hx:ev E x=some (.slice A' (n - j) c')) (hA:j<n→A'=some ⟨g',off+j*sz,none⟩) (hj:j≤n) (hF:nth F k=some (row e sz (.slice (some ⟨g',off,none⟩) n cap) n cs)) (hG:jl F k (row e sz (.slice (some ⟨g',off,none⟩) j cap) j (cs.take (j*sz)))=some G) :
  ∀ w,Sat b F w→∃ w' u,Ex P E (.call ⟨.builtin .clear,⟨[x]⟩,⟨[t]⟩⟩) ty w u w'∧Sat b G w':=fun w H=>by
 have hs:=an0 hsz;subst hs;have hzc:=vq hz;have hzs:i.zero.cells.size=zs.length:=by rw [← hzc,aok]
 have hrun:∃ w' u,(Builtin.clear_ #[t] ty #[.slice A' (n - j) c']).run P w = .ok u w'∧Sat b G w':=by
  rcases ap3 j n with h | h
  ·obtain rfl:=hA h;obtain ⟨h1,l,hAA⟩:=H.mem.get hF;obtain ⟨hl,⟨hv,_⟩ | ⟨g2,off2,cap2,cur,hv,hh,h2,h3,h4,h5⟩⟩:=hAA
   ·cases hv
   simp only [Value.slice.injEq,ane,Addr.mk.injEq,true_and,aq7] at hv;obtain ⟨⟨rfl,rfl⟩,rfl⟩:=hv;have hw:w.heap[g']? = some (.cells cur e (0,0)):=l _ _ hh;have hcl:n*zs.length≤cap*zs.length:=ao2 _ h2;have hjn:j*zs.length+(n - j)*zs.length=n*zs.length:=by rw [← arc];congr 1;omega
   have hzl:(Builtin.zeroCells i.zero.cells (n - j)).toList.length=(n - j)*zs.length:=by simp [Builtin.zeroCells,hzs]
   have hst:=run_storeCells_at P g' (off+j*zs.length) e (Builtin.zeroCells i.zero.cells (n - j)).toList 0 cur w hw (by omega) (vJ (by rw [hzc];exact fun u hu=>an4.1 hz1 u hu) _);simp only [arf] at hst;obtain ⟨m,hm⟩:∃ m,n - j=m+1:=⟨n - j - 1,by omega⟩;obtain ⟨rw1,hrw⟩:∃ R:List Value,R=cur.toList.take (off+j*zs.length)++(Builtin.zeroCells i.zero.cells (n - j)).toList++cur.toList.drop (off+j*zs.length+(Builtin.zeroCells i.zero.cells (n - j)).toList.length):=⟨_,rfl⟩;rw [← hrw] at hst;refine ⟨w.setRow g' rw1.toArray,.tuple #[],?_,H.upd (B:=row e zs.length (.slice (some ⟨g',off,none⟩) j cap) j (cs.take (j*zs.length))) k hF (Fr.setRow w g' _) (fun h4' l4 hA4=> ?_) hG⟩
   ·have hzr:=TT.run_zero (P:=P) he w;rw [hm] at hst ⊢;simp [Builtin.clear_,run_underlying (TT.und (P:=P) t _ ht Z),hzr,hst]
   ·have h4g:h4' g'=some (.cells cur e (0,0)):=by
     rcases hA4.2 with ⟨hv4,_⟩ | ⟨g5,off5,cap5,cur5,hv5,hh5,_⟩
     ·cases hv4
     ·simp only [Value.slice.injEq,ane,Addr.mk.injEq] at hv5;obtain ⟨⟨rfl,_⟩,_⟩:=hv5;have:=(l4 _ _ hh5).symm.trans hw;rw [hh5];exact this
    refine ⟨fun q _ hq=>by subst hq;rw [h4g];simp,_,yg (h:=ph _) (setRow_heap w g' cur _ e _ hw),⟨by rw [anm,hl];exact apq (ao2 _ hj),.inr ⟨g',off,cap,_,rfl,yi g' _,by omega,h3,?_,?_⟩⟩,fun q hq=> .inl (by rw [yh hq,h4g];simp)⟩
    ·rw [hrw];simp only [apz,am9,anm,aoi,aok];omega
    ·have hcur:cur.toList.length=cur.size:=aok;rw [hrw];show ((cur.toList.take (off+j*zs.length)++_++_).drop off).take (j*zs.length)=_;rw [anh,apy (by rw [anm];omega),List.drop_take,ao8,apm (by rw [anm,aoi];omega),List.take_take,Nat.min_self,← h5,List.take_take];congr 1;omega
  ·have hjn:n - j=0:=by omega
   rw [hjn];refine ⟨w,.tuple #[],by cases A' <;> simp [Builtin.clear_,run_underlying (TT.und (P:=P) t _ ht Z)],?_⟩;exact H.ent (lB hj k hF hG)
 obtain ⟨w',u,h1,h2⟩:=hrun;refine ⟨w',u,?_,h2⟩;intro ρ o hρ ho hty;subst hty;simp only [execOp,ho,resolve,invoke,builtin,Sem.run_bind,Sem.run_pure,Result.andThen];have e1:Array.map ρ #[x] = #[.slice A' (n - j) c']:=by simp [hρ _ _ hx]
 simp only [e1,h1]
theorem zp {t e g' off n cap j sz c' s1 s2:Nat} {z1:Value} {f1:List (Nat × Nat)} {i:TI} {zs:List Value} {A':Option Addr} {x:Operand} {cs:List Value} (k:Nat) (hg:da l E g=some true) (hop:op = .call ⟨.builtin .clear,⟨[x]⟩,⟨[t]⟩⟩) (ht:tt t=some ⟨.slice e,s1,s2,z1,f1⟩) (he:tt e=some i) (hz:su i.zero=some zs) (hsz:Nat.beq zs.length sz=true) (hz1:zs.all (·.oneCell')=true)
  (hx:ev E x=some (.slice A' (n - j) c')) (hF:nth F k=some (row e sz (.slice (some ⟨g',off,none⟩) n cap) n cs)) (hG:jl F k (row e sz (.slice (some ⟨g',off,none⟩) j cap) j (cs.take (j*sz)))=some G) (hA:j<n→A'=some ⟨g',off+j*sz,none⟩) (hj:j≤n)
  (h:SO P ro N l rest Q E ds b G):SO P ro N l (⟨none,op,ty,pos,aft,g⟩::rest) Q E ds b F:=by
 subst hop;exact F3 hg (Cm k ht he hz hsz hz1 hx hA hj hF hG) h
end

theorem Ky {P:Program} {tt:Nat→Option TI} [TT P tt] {w:World} {dT sT ty elem s1 s2 g o dLen dCap m:Nat} {z1:Value} {f1:List (Nat × Nat)} {i:TI} {cur:Array Value} {t:TypeId} {vx:Value} {news:List Value}
  (ht:tt dT=some ⟨.slice elem,s1,s2,z1,f1⟩) (he:tt elem=some i) (hi:Nat.beq i.size 1=true) (hg:w.heap[g]? = some (.cells cur t (0,0))) (hsl:SL w 1 vx m news) (hm:m≤dLen) (hfit:o+m≤cur.size) (h1:∀ u∈news,u.oneCell'=true) :
  (Builtin.copy_ #[dT,sT] ty #[.slice (some ⟨g,o,none⟩) dLen dCap,vx]).run P w = .ok (.int .i64 (m:Int)) (w.setRow g (spl cur.toList o news).toArray):=by
 obtain ⟨j,hj,h2,_,_⟩:=TT.info (P:=P) elem i he;have hu:=TT.und (P:=P) dT _ ht Z;have hs1:=an0 hi;obtain ⟨A,c,rfl,hl,hc,hmx,hz0,hcell⟩:=hsl;rw [aop] at hl;have e9:∀ ns:List Value,cur.toList.take o++ns++cur.toList.drop (o+ns.length)=spl cur.toList o ns:=fun ns=>by simp [spl]
 cases A with
 | none =>
  have hm0:m=0:=by have:=hz0 Z;omega
  subst hm0;have hn:news = []:=an3 hl;subst hn;obtain rfl:c=0:=hz0 Z;have hr:=run_copy_nil (P:=P) w dT sT ty elem ⟨g,o,none⟩ dLen dCap hu (by simp [hj]);rw [hr];have:spl cur.toList o []=cur.toList:=by simp [spl]
  rw [this,Array.toArray_toList,setRow_self w g cur t (0,0) hg]
  rfl
 | some a =>
  have hnews:∀ k u,news[k]? = some u→w.cell? (a.add k)=some u:=by
   intro k u hk;have hlt:k<news.length:=(ann.1 hk).1;obtain ⟨b,off',hab,hb,hcc⟩:=hcell (by omega);cases hab;have ha:(⟨b,off',none⟩:Addr).add k=⟨b,off'+k,none⟩:=by unfold Addr.add;split <;> simp_all
   rw [ha,hcc k hlt,hk]
  have hr:=run_copy_row (P:=P) w dT sT ty elem g o dLen dCap a m c cur t news hu (by simp [hj,h2,hs1]) hg (by rw [hl];exact (apq hm).symm) hnews (by omega) h1;rw [hr,e9,hl]
  rfl
section
variable {P:Program} {tt:Nat→Option TI} [TT P tt] {ro:Option Nat} {N:Nat} {l rest:List Oper} {Q:Exit→Act→World→Prop} {E:List (Nat × Value)} {ds:List Deferred} {b:World} {F F0 G:List SP} {fl:Oper→Bool} {kk:Nat}
 {d:Nat} {op:Op} {ty:TypeId} {pos:String} {aft:Array Edge} {g:Option (Nat × Bool)} {v:Value}
theorem Kz {dT sT elem s1 s2 g' o dLen dCap m t0:Nat} {z1:Value} {f1:List (Nat × Nat)} {i:TI} {x y:Operand} {vx:Value} {cs news:List Value} (k:Nat) (ht:tt dT=some ⟨.slice elem,s1,s2,z1,f1⟩) (he:tt elem=some i) (hi:Nat.beq i.size 1=true)
  (hx:ev E x=some (.slice (some ⟨g',o,none⟩) dLen dCap)) (hy:ev E y=some vx) (hF:nth F k=some (pt g' t0 cs)) (hG:jl F k (pt g' t0 (spl cs o news))=some G) (hsl:∀ w,Sat b F w→SL w 1 vx m news) (hm:m≤dLen) (hfit:o+m≤cs.length) (h1:∀ u∈news,u.oneCell'=true) :
  ∀ w,Sat b F w→∃ w',Ex P E (.call ⟨.builtin .copy,⟨[x,y]⟩,⟨[dT,sT]⟩⟩) ty w (.int .i64 (m:Int)) w'∧Sat b G w':=fun w H=>by
 have B:=H.blk hF;have hr:=Ky (P:=P) (ty:=ty) (sT:=sT) (dCap:=dCap) ht he hi B (hsl w H) hm (by simpa using hfit) h1;refine ⟨_,?_,H.write hF (Fr.setRow _ _ _) B.setRow hG⟩;intro ρ q hρ ho hty;subst hty;simp only [execOp,ho,resolve,invoke,builtin,Sem.run_bind,Sem.run_pure,Result.andThen];have e1:Array.map ρ #[x,y] = #[.slice (some ⟨g',o,none⟩) dLen dCap,vx]:=by simp [hρ _ _ hx,hρ _ _ hy]
 simp only [e1,hr]
theorem Yd (hg:da l E g=some true) (hd:Nat.blt d N=true) (hx:∀ w,Sat b F w→∃ w',Ex P E op ty w v w'∧Sat b G w') (h:SO P ro N l rest Q ((d,v)::E) ds b G):SO P ro N l (⟨some d,op,ty,pos,aft,g⟩::rest) Q E ds b F:=⟨fun w H=>by
 obtain ⟨w',h2,h3⟩:=hx w H;exact ek hg h2 hd (h.1 w' h3)⟩
end
end Go.Eng
namespace Go.Eng
open Go Go.RowKit

section
variable {P:Program} {tt:Nat→Option TI} [TT P tt] {fl:Oper→Bool} {ro:Option Nat} {N d kk:Nat} {l rest:List Oper} {Q:Exit→Act→World→Prop} {E:List (Nat × Value)} {ds:List Deferred} {b:World} {F F0:List SP} {op:Op} {ty:TypeId} {pos:String} {aft:Array Edge} {g:Option (Nat × Bool)} {v u:Value}
end
end Go.Eng
namespace Go.Eng
open Go Go.RowKit

section
variable {P:Program} {ro:Option Nat} {l:List Oper} {Q Q':Exit→Act→World→Prop} {S:World→Prop} {fl:Oper→Bool}

end

section
variable {fl:Oper→Bool} {l:List Oper}
end

section
variable {P:Program} {fl:Oper→Bool} {ro:Option Nat} {N:Nat} {l:List Oper} {Q:Exit→Act→World→Prop} {E:List (Nat × Value)} {ds:List Deferred} {b:World} {F F0:List SP}
end
end Go.Eng
namespace Go.Eng
open Go Go.RowKit
section
variable {P:Program} {tt:Nat→Option TI} [hTT:TT P tt] {E:List (Nat × Value)} {v:Value} {ty:Nat} {ro:Option Nat} {N d:Nat} {pos:String} {aft:Array Edge} {g:Option (Nat × Bool)} {l rest:List Oper} {Q:Exit→Act→World→Prop} {ds:List Deferred} {b:World} {F F0:List SP} {op:Op} {fl:Oper→Bool} {kk:Nat}
def asV (hit:Bool) (v z:Value):Value:=match hit with
 | true => .tuple #[v, .bool true]
 | false => .tuple #[z, .bool false]
theorem Ye {t0 t t':Nat} {i:TI} {x:Operand} (hx:ev E x=some (.iface t0 v)) (ht:tt t=some i) (hi:o5 i.desc=false):Pu P E (.typeAssert x t' t true) ty (asV (Nat.beq t0 t) v i.zero):=by
 intro w ρ o hρ ho _;have hu:∃ D,P.underlying t=some D∧o5 D=false:=by
  by_cases hs:eB i.desc=true
  ·obtain ⟨fs,h1,_⟩:=TT.st (P:=P) t i ht hs;exact ⟨_,h1,rfl⟩
  ·exact ⟨_,TT.und (P:=P) t i ht (by simpa using hs),hi⟩
 obtain ⟨D,h1,h2⟩:=hu;have hz:=TT.run_zero (P:=P) ht w;have hr:(Instr.typeAssert (.iface t0 v) t' t true).run P w = .ok (asV (Nat.beq t0 t) v i.zero) w:=by
  unfold Instr.typeAssert;simp only [Sem.run_bind,run_underlying h1,Result.andThen];cases hb:Nat.beq t0 t with
  | true =>
   have:=an0 hb;subst this;cases D <;> first | (simp [o5] at h2;done) | simp [asV]
  | false =>
   have:=Nat.ne_of_beq_eq_false hb;cases D <;> first | (simp [o5] at h2;done) | simp [asV,this,hz,Result.andThen]
 simp [execOp,ho,hρ _ _ hx,hr]
theorem ow {t0 t t':Nat} {i:TI} {x:Operand} {q:Bool} (hg:da l E g=some true) (hop:op = .typeAssert x t' t true) (hx:ev E x=some (.iface t0 v)) (ht:tt t=some i) (hi:o5 i.desc=false) (hq:Nat.beq t0 t=q) (hd:Nat.blt d N=true) (h:SO P ro N l rest Q ((d,asV q v i.zero)::E) ds b F) :
  SO P ro N l (⟨some d,op,ty,pos,aft,g⟩::rest) Q E ds b F:=by subst hop;subst hq;exact nq hg (Ye hx ht hi) hd h
end
end Go.Eng
namespace Go.Eng
open Go Go.RowKit
abbrev sE (s:ByteArray):List Value:=(fe s).map (Value.int .u8)
theorem Nm (s:ByteArray):(sE s).length=s.size:=by simp [sE,fe]
theorem Nn (s:ByteArray):∀ u∈sE s,u.oneCell'=true:=by intro u hu;obtain ⟨x,_,rfl⟩:=anb.1 hu;rfl
theorem jR {P:Program} (w:World) (sz:Nat) (s:ByteArray):(Builtin.firstCells sz s.size (.string s)).run P w = .ok (sE s).toArray w:=by
 have e:(s.extract 0 s.size).data.map (fun b:UInt8=>Value.int IntKind.u8 (b.toNat:Int))=(sE s).toArray:=by
  apply aqe;simp [sE,fe]
 simp only [Builtin.firstCells,Sem.run_pure,e]
theorem vK {P:Program} {tt:Nat→Option TI} [TT P tt] {w:World} {base t u ty e n:Nat} {i iu:TI} {s1 s2:Nat} {z1:Value} {f1:List (Nat × Nat)} (ht:tt t=some ⟨.slice e,s1,s2,z1,f1⟩) (hu:tt u=some iu) (hiu:iu.desc = .string) (he:tt e=some i) (hz:i.zero.cells.size=i.size) (hsz:i.size=1)
  {v:Value} {cs:List Value} {s:ByteArray} (hown:Oat w base e i.size v n cs)
  (h63:n+s.size≤maxLen) (hbytes:(n+s.size)*i.bytes≤140737488355328) (hbase:base≤w.heap.size) :
  ∃ v' w',(Builtin.append_ #[t,u] ty #[v,.string s]).run P w = .ok v' w'∧Oat w' base e i.size v' (n+s.size) (cs++sE s)∧Fr (fun k=>v.ownBlock=some k) w w'∧∀ k,v'.ownBlock=some k→v.ownBlock=some k∨w.heap.size≤k:=by
 have hl:=Nm s;have h1:=Nn s;have hf0:=fun w:World=>jR (P:=P) w i.size s
 obtain ⟨j,hj,h2,h3,h4⟩:=TT.info (P:=P) e i he;have hut:=TT.und (P:=P) t _ ht Z;have huu:P.underlying u=some .string:=by rw [← hiu];exact TT.und (P:=P) u iu hu (by rw [hiu];rfl)
 have hlen:(cs++sE s).length=(n+s.size)*i.size:=by rw [am9,hown.1,hl,hsz];omega
 generalize sE s=news at *;generalize hm:s.size=m at *;have hsmall:n+m≤9223372036854775807:=by simp only [maxLen] at h63;omega
 rcases hown.2 with ⟨rfl,rfl⟩ | ⟨g,off,cap,cur,rfl,hbg,hh,hnc,hcm,hcs,htake⟩
 ·have hcs:cs = []:=an3 (by simpa using hown.1);subst hcs;rcases aoo m with h0 | h0
  ·subst h0;have hn:news = []:=an3 hl;subst hn;refine ⟨_,w,?_,by simpa using hown,Fr.refl _ w,fun _ hk=> .inl hk⟩;have hf:=hf0 w;simp [Builtin.append_,run_underlying hut,run_underlying huu,sizeOf,typeInfo,hj,Builtin.lenOf,hm,h2,hf]
  ·have hn':m≠0:=by omega
   have h63':¬ (9223372036854775807<(m:Int)):=by omega
   have h48':¬ (281474976710656<Builtin.nextslicecap m 0*j.bytes):=by rw [nextslicecap_zero h0,h3];simp only [aob] at hbytes;omega
   have hf:=hf0 w.drew;have hfo:(Builtin.firstCells i.size 0 (.slice none 0 0)).run P w.drew = .ok #[] w.drew:=rfl;refine ⟨.slice (some ⟨w.heap.size,0,none⟩) (0+m) (grownCap w m 0 e),w.drew.alloc (.cells (news.toArray++Builtin.zeroCells i.zero.cells (grownCap w m 0 e - m)) e),?_,⟨hlen,.inr ⟨w.heap.size,0,_,_,rfl,hbase,heap_alloc_new w.drew _,?_,?_,?_,?_⟩⟩,(Fr.drew w).trans (Fr.alloc _ _),fun k hk=> .inr (by simp only [Value.ownBlock,ane] at hk;omega)⟩
   ·simp [Builtin.append_,run_underlying hut,run_underlying huu,sizeOf,typeInfo,zeroValue,hj,h4,Builtin.lenOf,hm,hn',h63',h48',Question.forced,newRow,grownCap,h2,hf,hfo]
   ·rw [aob];exact grownCap_ge w m 0 e
   ·exact grownCap_le_maxLen w m 0 e (by omega)
   ·have hge:=grownCap_ge w m 0 e;simp only [Array.size_append,apz,size_zeroCells,hz,hl,hsz];omega
   ·have e9:(0+m)*i.size=news.length:=by rw [hl,hsz];omega
    rw [e9];simp
 ·have hnews:=trivial;by_cases hroom:n+m≤cap
  ·have hfit:off+n*i.size+0+news.length≤cur.size:=by rw [hsz] at hcs ⊢;omega
   have hf:=hf0 w;have hst:=run_storeCells_at P g (off+n*i.size) e news 0 cur w hh hfit h1;simp only [arf] at hst;have ha:(⟨g,off,none⟩:Addr).add (n*i.size)=⟨g,off+n*i.size,none⟩:=by unfold Addr.add;split <;> simp_all
   obtain ⟨row,hrow⟩:∃ row:List Value,row=cur.toList.take (off+n*i.size)++news++cur.toList.drop (off+n*i.size+news.length):=⟨_,rfl⟩;rw [← hrow] at hst;refine ⟨.slice (some ⟨g,off,none⟩) (n+m) cap,w.setRow g row.toArray,?_,⟨hlen,.inr ⟨g,off,cap,row.toArray,rfl,hbg,setRow_heap w g cur _ e _ hh,hroom,hcm,?_,?_⟩⟩,(Fr.setRow w g _).mono fun k _ hk=>(by simp [Value.ownBlock,hk]),fun _ hk=> .inl hk⟩
   ·simp [Builtin.append_,run_underlying hut,run_underlying huu,sizeOf,typeInfo,hj,h2,Builtin.lenOf,hm,hroom,hf,ha,hst]
   ·subst hrow;simp only [apz,am9,anm,aoi,aok];omega
   ·have e1:cur.toList.take (off+n*i.size)=cur.toList.take off++cs:=by
     rw [← htake,List.take_add]
    have hlo:(cur.toList.take off).length=off:=by
     rw [anm,aok];omega
    subst hrow;show ((cur.toList.take (off+n*i.size)++news++_).drop off).take _=_;rw [e1,anh,anh,apy (by omega),aog (by omega),aos,← anh,← hlen];exact List.take_left
  ·have holds:∀ k u,cs[k]? = some u→w.cell? ((⟨g,off,none⟩:Addr).add k)=some u:=by
    intro k u hk;have hlt:k<cs.length:=(ann.1 hk).1;have ha:(⟨g,off,none⟩:Addr).add k=⟨g,off+k,none⟩:=by unfold Addr.add;split <;> simp_all
    rw [ha,cell_of_row w g (off+k) cur e (0,0) hh,← hk,← htake,aoq,if_pos (by rw [← hown.1];exact hlt),aow];simp
   have h63':¬ (9223372036854775807<((n:Int)+(m:Int))):=by omega
   have h48':¬ (281474976710656<Builtin.nextslicecap (n+m) cap*j.bytes):=by have:=growslice_fits (need:=n+m) (old:=cap) (bytes:=j.bytes) (by omega) (by rw [h3];exact hbytes);omega
   have hf:=hf0 w.drew;have hfo:=run_firstCells_some (P:=P) w.drew i.size n (⟨g,off,none⟩:Addr) n cap cs hown.1 (by simpa using holds);refine ⟨.slice (some ⟨w.heap.size,0,none⟩) (n+m) (grownCap w (n+m) cap e),w.drew.alloc (.cells (cs.toArray++news.toArray++Builtin.zeroCells i.zero.cells (grownCap w (n+m) cap e - (n+m))) e),?_,⟨hlen,.inr ⟨w.heap.size,0,_,_,rfl,hbase,heap_alloc_new w.drew _,grownCap_ge w (n+m) cap e,grownCap_le_maxLen w (n+m) cap e h63,?_,?_⟩⟩,(Fr.drew w).trans (Fr.alloc _ _),fun k hk=> .inr (by simp only [Value.ownBlock,ane] at hk;omega)⟩
   ·simp [Builtin.append_,run_underlying hut,run_underlying huu,sizeOf,typeInfo,zeroValue,hj,h4,Builtin.lenOf,hm,hroom,h63',h48',Question.forced,h2,hf,hfo,newRow,grownCap];congr 2;apply aqe;simp [anh]
   ·have hge:=grownCap_ge w (n+m) cap e;simp only [Array.size_append,apz,size_zeroCells,hz,hown.1,hl,hsz,aob];omega
   ·simp only [Array.toList_append,anh,arn];rw [← anh,← hlen];exact List.take_left
section
variable {P:Program} {tt:Nat→Option TI} [TT P tt] {ro:Option Nat} {N:Nat} {l rest:List Oper} {Q:Exit→Act→World→Prop} {E:List (Nat × Value)} {ds:List Deferred} {b:World} {F G:List SP}
 {d:Nat} {op:Op} {ty:TypeId} {pos:String} {aft:Array Edge} {g:Option (Nat × Bool)} {v:Value}
theorem K0 {t u e n s1 s2:Nat} {z1:Value} {f1:List (Nat × Nat)} {i iu:TI} {x y:Operand} {s:ByteArray} {cs:List Value} (k:Nat) (hg:da l E g=some true) (hd:Nat.blt d N=true)
  (hop:op = .call ⟨.builtin .append,⟨[x,y]⟩,⟨[t,u]⟩⟩) (ht:tt t=some ⟨.slice e,s1,s2,z1,f1⟩) (hu:tt u=some iu) (hiu:iu.desc = .string) (he:tt e=some i) (hi:(Nat.beq i.zero.cells.size 1&&Nat.beq i.size 1&&Nat.ble i.bytes 2097152)=true)
  (hx:ev E x=some v) (hy:ev E y=some (.string s)) (hF:nth F k=some (row e 1 v n cs)) (hn:n+s.size≤67108864) {Gf:Value→List SP} (hG:∀ v',jl F k (row e 1 v' (n+s.size) (cs++sE s))=some (Gf v'))
  (h:∀ v',SO P ro N l rest Q ((d,v')::E) ds b (Gf v')):SO P ro N l (⟨some d,op,ty,pos,aft,g⟩::rest) Q E ds b F:=by
 simp only [anw] at hi;obtain ⟨⟨h1',h2'⟩,h3'⟩:=hi;have e1:=an0 h1';have e2:=an0 h2';have e3:=anz h3'
 constructor
 intro w H;subst hop;have hbytes:(n+s.size)*i.bytes≤140737488355328:=aoz (aro hn e3) (by decide);obtain ⟨v',w',hrun,ho,hf,hnb⟩:=vK (P:=P) (ty:=ty) ht hu hiu he (by rw [e1,e2]) e2 (s:=s) (by rw [e2];exact H.oat hF) (by unfold maxLen;omega) hbytes (anq _);rw [e2] at ho;refine ek hg ?_ hd ((h v').1 w' ?_)
 ·intro ρ o hρ hop' hty;subst hty;simp only [execOp,hop',resolve,invoke,builtin,Sem.run_bind,Sem.run_pure,Result.andThen];have e1:Array.map ρ #[x,y] = #[v,.string s]:=by simp [hρ _ _ hx,hρ _ _ hy]
  simp only [e1,hrun]
 ·obtain ⟨h3,l3,hA,hn3⟩:=qO ho;refine H.upd k hF hf (fun h4 l4 hA4=> ?_) (hG v');have key:∀ q,v.ownBlock=some q→h4 q≠none:=by
   intro q hq;rcases hA4.2 with ⟨rfl,_⟩ | ⟨g5,off5,cap5,cur5,rfl,hh5,_⟩
   ·cases hq
   ·simp only [Value.ownBlock,ane] at hq;subst hq;rw [hh5];simp
  exact ⟨fun q _ hq=>key q hq,h3,l3,hA,fun q hq=>(hnb q (hn3 q hq).2).imp (key q) id⟩
theorem Yf {t e n s1 s2:Nat} {z1:Value} {f1:List (Nat × Nat)} {i:TI} {x y:Operand} {cs us:List Value} {k:IntKind} {j:Int} (ht:tt t=some ⟨.array n e,s1,s2,z1,f1⟩) (he:tt e=some i) (hagg:ri i.desc=true) (hx:ev E x=some (.agg ⟨cs⟩)) (hy:ev E y=some (.int k j)) (hj:0≤j∧j<n)
  (hu:(cs.drop (j.toNat*i.size)).take i.size=us):Pu P E (.index t x y) ty (.agg ⟨us⟩):=by
 intro w ρ o hρ ho _;have hex:(⟨cs⟩:Array Value).extract (j.toNat*i.size) (j.toNat*i.size+i.size)=⟨us⟩:=by
  apply aqe;rw [← hu];simp [List.extract_eq_take_drop]
 simp only [execOp,ho,hρ _ _ hx,hρ _ _ hy,Instr.index,asIntOf,Sem.run_bind,Sem.run_pure,Result.andThen,TT.run_und ht rfl,hj,aq6];rw [if_pos ⟨trivial,trivial⟩];simp only [part,Sem.run_bind,sb he,hagg,TT.run_size he,Result.andThen,aq6,Sem.run_pure,hex]
theorem Yg {fl:Oper→Bool} {kk:Nat} {F0:List SP} (hg:da l E g=some true) (hf:fl ⟨some d,op,ty,pos,aft,g⟩=false) (hd:Nat.blt d N=true) (hx:∀ w,Sat b F w→∃ w',Ex P E op ty w v w'∧Sat b G w') (hE:Ent G F0) (h:SD P fl ro N F0 l (kk+1) rest Q ((d,v)::E) ds b G):SD P fl ro N F0 l kk (⟨some d,op,ty,pos,aft,g⟩::rest) Q E ds b F:=⟨fun w H=>by
 obtain ⟨w',h2,h3⟩:=hx w H;exact kW hg hf h2 (h3.ent hE) hd (h.1 _ h3)⟩
end
end Go.Eng
namespace Go.Eng
open Go Go.RowKit

section
variable {P:Program} {ro:Option Nat} {l:List Oper} {Q Q':Exit→Act→World→Prop} {S:World→Prop} {fl:Oper→Bool} {y:Nat} {oy:Oper}
end

section
variable {fl:Oper→Bool} {l:List Oper} {y:Nat} {oy:Oper}
end

section
variable {P:Program} {fl:Oper→Bool} {ro:Option Nat} {N:Nat} {l:List Oper} {Q Q':Exit→Act→World→Prop} {E:List (Nat × Value)} {ds:List Deferred} {b:World} {F F0:List SP} {y:Nat} {oy:Oper}
end
end Go.Eng
namespace Go.Eng
open Go Go.RowKit Go.MapKept
open Go.ChangeMaps (setBlock)

section
variable {P:Program} {tt:Nat→Option TI} [TT P tt] {ro:Option Nat} {N:Nat} {l rest:List Oper} {Q:Exit→Act→World→Prop} {E:List (Nat × Value)} {ds:List Deferred} {b:World} {F G:List SP}
 {op:Op} {ty:TypeId} {pos:String} {aft:Array Edge} {g:Option (Nat × Bool)} {v:Value}
 {α:Type} [DecidableEq α] {K:α→Value} {ok:α→Prop} {L:List (α × Value)} {a:α}
end
end Go.Eng
namespace Go.Eng
open Go Go.RowKit

section
variable {P:Program} {tt:Nat→Option TI} [TT P tt] {E:List (Nat × Value)} {ty:TypeId}
theorem Yh {fs:Array Field} {fl:List (Nat × Nat)} (h:fs.toList.map (fun f=>(f.type,f.offset))=fl) {k ft fo:Nat} (hn:nth fl k=some (ft,fo)):∃ f:Field,fs[k]? = some f∧f.type=ft∧f.offset=fo:=by
 rw [lw,← h,apj] at hn;cases hf:fs.toList[k]? with
 | none => rw [hf] at hn; cases hn
 | some f =>
  rw [hf] at hn;simp only [aoh,ane,an6] at hn;exact ⟨f,by rw [← Array.getElem?_toList];exact hf,hn.1,hn.2⟩
theorem No {t k ft fo:Nat} {i j:TI} {x:Operand} {cs:List Value} {v:Value} (ht:tt t=some i) (hs:eB i.desc=true) (hn:nth i.flds k=some (ft,fo)) (hft:tt ft=some j) (hagg:ri j.desc=false) (hx:ev E x=some (.agg ⟨cs⟩)) (hv:nth cs fo=some v):Pu P E (.field t x k) ty v:=by
 intro w ρ o hρ ho _;obtain ⟨fs,h1,h2⟩:=TT.run_st (P:=P) ht hs;obtain ⟨f,h3,rfl,rfl⟩:=Yh h2 hn;have hv':cs[f.offset]? = some v:=by rw [← lw];exact hv
 simp only [execOp,ho,hρ _ _ hx,Instr.field,Sem.run_bind,h1,Result.andThen,h3,asAgg,Sem.run_pure,part,sb hft,hagg];simp [hv']
end
end Go.Eng
namespace Go.Eng
open Go Go.RowKit

section
variable {P:Program} {tt:Nat→Option TI} [TT P tt] {ro:Option Nat} {N n:Nat} {l rest:List Oper} {Q:Exit→Act→World→Prop} {E E0:List (Nat × Value)} {ds:List Deferred} {b:World} {F F0:List SP} {fl:Oper→Bool}

inductive FR2 where
 | val (v : Value)
 | new (t : Nat) (zs : List Value)
 | rel (R : Value → List SP → Prop)
def okR (us:Nat→Value) (Ys:Nat→List SP):Nat→List FR2→Prop
 | _, [] => True
 | j, .rel R :: D => R (us j) (Ys j) ∧ okR us Ys (j + 1) D
 | j, _ :: D => okR us Ys (j + 1) D
variable {D:List FR2} {d:Nat} {op:Op} {ty:TypeId} {pos:String} {aft:Array Edge} {g:Option (Nat × Bool)} {v:Value}
theorem qr (A:List SP):Ent (A++F) F:=(je ao9).trans (Si A)
end
end Go.Eng
namespace Go.Eng
open Go Go.RowKit
section
variable {P:Program} {tt:Nat→Option TI} [TT P tt] {ro:Option Nat} {N:Nat} {l:List Oper} {Q:Exit→Act→World→Prop} {E:List (Nat × Value)} {ds:List Deferred} {b:World} {F F0:List SP} {fl:Oper→Bool}
variable {rest:List Oper} {G:List SP} {kk d:Nat} {op:Op} {ty:TypeId} {pos:String} {aft:Array Edge} {g:Option (Nat × Bool)} {v:Value}
 {α:Type} [DecidableEq α] {K:α→Value} {ok:α→Prop} {L:List (α × Value)} {a:α}
theorem Np (q:Nat) {t k e s1 s2 gm:Nat} {z1:Value} {f1:List (Nat × Nat)} {i:TI} {m x:Operand} (M:MK P k K ok) (ha:ok a) (hv:(md a L).getD i.zero=v) (hg:da l E g=some true) (hop:op = .lookup t m x false) (ht:tt t=some ⟨.map k e,s1,s2,z1,f1⟩) (he:tt e=some i) (hm:ev E m=some (.map (some gm))) (hx:ev E x=some (K a))
  (hF:nth F q=some (mp gm K ok L)) (hd:Nat.blt d N=true) (h:SO P ro N l rest Q ((d,v)::E) ds b F):SO P ro N l (⟨some d,op,ty,pos,aft,g⟩::rest) Q E ds b F:=by
 subst hop;refine fc hg (fun w H=> ?_) hd h;have:=gQ (ty:=ty) (c:=false) M ht he hm hx ha hF w H;simpa [hv] using this
theorem sF (q:Nat) {t k e s1 s2 gm:Nat} {z1:Value} {f1:List (Nat × Nat)} {i:TI} {m x:Operand} (M:MK P k K ok) (ha:ok a) (hv:(md a L).getD i.zero=v) (hg:da l E g=some true) (hf:fl ⟨some d,op,ty,pos,aft,g⟩=true) (hop:op = .lookup t m x false) (ht:tt t=some ⟨.map k e,s1,s2,z1,f1⟩) (he:tt e=some i) (hm:ev E m=some (.map (some gm))) (hx:ev E x=some (K a))
  (hF:nth F0 q=some (mp gm K ok L)) (hd:Nat.blt d N=true) (h:SD P fl ro N F0 l (kk+1) rest Q ((d,v)::E) ds b F):SD P fl ro N F0 l kk (⟨some d,op,ty,pos,aft,g⟩::rest) Q E ds b F:=by
 subst hop;refine ij hg (fun w H=> ?_) hf hd h;have:=gQ (ty:=ty) (c:=false) M ht he hm hx ha hF w H;simpa [hv] using this
end
end Go.Eng
namespace Go.Eng
open Go Go.RowKit

theorem K1 {P:Program} {tt:Nat→Option TI} [TT P tt] {w:World} {dT sT ty elem s1 s2 g o dLen dCap m sz:Nat} {z1:Value} {f1:List (Nat × Nat)} {i:TI} {cur:Array Value} {t:TypeId} {vx:Value} {news:List Value}
  (ht:tt dT=some ⟨.slice elem,s1,s2,z1,f1⟩) (he:tt elem=some i) (hi:Nat.beq i.size sz=true) (hg:w.heap[g]? = some (.cells cur t (0,0))) (hsl:SL w sz vx m news) (hfit:o+min m dLen*sz≤cur.size) (h1:∀ u∈news.take (min m dLen*sz),u.oneCell'=true) :
  (Builtin.copy_ #[dT,sT] ty #[.slice (some ⟨g,o,none⟩) dLen dCap,vx]).run P w = .ok (.int .i64 ((min m dLen:Nat):Int)) (w.setRow g (spl cur.toList o (news.take (min m dLen*sz))).toArray):=by
 obtain ⟨j,hj,h2,_,_⟩:=TT.info (P:=P) elem i he;have hu:=TT.und (P:=P) dT _ ht Z;have hs1:=an0 hi;obtain ⟨A,c,rfl,hl,hc,hmx,hz0,hcell⟩:=hsl;cases A with
 | none =>
  have hm0:m=0:=by have:=hz0 Z;omega
  subst hm0;have hn:news = []:=an3 (by simpa using hl);subst hn;obtain rfl:c=0:=hz0 Z;have hr:=run_copy_nil (P:=P) w dT sT ty elem ⟨g,o,none⟩ dLen dCap hu (by simp [hj]);rw [hr];have:spl cur.toList o (List.take (min 0 dLen*sz) [])=cur.toList:=by simp [spl]
  rw [this,Array.toArray_toList,setRow_self w g cur t (0,0) hg,Nat.zero_min]
  rfl
 | some a =>
  generalize hq:min m dLen=q at *;have hq':Nat.min m dLen=q:=hq;have hqm:q*sz≤m*sz:=ao2 _ (by omega);have htl:(news.take (q*sz)).length=q*sz:=by rw [anm];omega
  have hnews:∀ k u,(news.take (q*sz))[k]? = some u→w.cell? (a.add k)=some u:=by
   intro k u hk;have hlt:k<q*sz:=by have:=(ann.1 hk).1;omega
   have hk':news[k]? = some u:=by rw [aoq,if_pos hlt] at hk;exact hk
   have hm0:0<m:=by
    rcases aoo m with h0 | h0
    ·subst h0;omega
    ·exact h0
   obtain ⟨b,off',hab,hb,hcc⟩:=hcell hm0;cases hab;have ha:(⟨b,off',none⟩:Addr).add k=⟨b,off'+k,none⟩:=by unfold Addr.add;split <;> simp_all
   rw [ha,hcc k (by omega),hk']
  have hf:=run_firstCells_some (P:=P) w i.size q a m c (news.take (q*sz)) (by rw [htl,hs1]) hnews;have hst:=run_storeCells_at P g o t (news.take (q*sz)) 0 cur w hg (by rw [htl];omega) h1;have e9:cur.toList.take o++news.take (q*sz)++cur.toList.drop (o+(news.take (q*sz)).length)=spl cur.toList o (news.take (q*sz)):=by simp [spl]
  simp only [arf] at hst;rw [e9] at hst;simp [Builtin.copy_,run_underlying hu,Builtin.lenOf,sizeOf,typeInfo,hj,h2,hq',hf,hst]
  rfl
section
variable {P:Program} {tt:Nat→Option TI} [TT P tt] {ro:Option Nat} {N:Nat} {l rest:List Oper} {Q:Exit→Act→World→Prop} {E:List (Nat × Value)} {ds:List Deferred} {b:World} {F F0 G:List SP} {fl:Oper→Bool} {kk:Nat}
 {d:Nat} {op:Op} {ty:TypeId} {pos:String} {aft:Array Edge} {g:Option (Nat × Bool)} {v:Value}
theorem pJ {dT sT elem s1 s2 g' e sz n cap o0 o dLen dCap m at':Nat} {z1:Value} {f1:List (Nat × Nat)} {i:TI} {x y:Operand} {vx:Value} {cs cs' news:List Value} (k:Nat) (ht:tt dT=some ⟨.slice elem,s1,s2,z1,f1⟩) (he:tt elem=some i) (hi:Nat.beq i.size sz=true)
  (hx:ev E x=some (.slice (some ⟨g',at',none⟩) dLen dCap)) (hy:ev E y=some vx) (hF:nth F k=some (row e sz (.slice (some ⟨g',o0,none⟩) n cap) n cs)) (hc:spl cs o (news.take (min m dLen*sz))=cs') (hG:jl F k (row e sz (.slice (some ⟨g',o0,none⟩) n cap) n cs')=some G) (hat:at'=o0+o) (hsl:∀ w,Sat b F w→SL w sz vx m news) (hfit:o+min m dLen*sz≤cs.length) (h1:∀ u∈news.take (min m dLen*sz),u.oneCell'=true) :
  ∀ w,Sat b F w→∃ w',Ex P E (.call ⟨.builtin .copy,⟨[x,y]⟩,⟨[dT,sT]⟩⟩) ty w (.int .i64 ((min m dLen:Nat):Int)) w'∧Sat b G w':=fun w H=>by
 subst hc;subst hat;have hnl:(news.take (min m dLen*sz)).length=min m dLen*sz:=by
  obtain ⟨_,_,_,h,_⟩:=hsl w H;have:min m dLen*sz≤m*sz:=ao2 _ (by omega);rw [anm];omega
 obtain ⟨h0,l0,hA⟩:=H.mem.get hF;obtain ⟨hl,⟨hv,_⟩ | ⟨g2,off2,cap2,cur,hv,hh,h2,h3,h4,h5⟩⟩:=hA
 ·cases hv
 simp only [Value.slice.injEq,ane,Addr.mk.injEq,true_and,aq7] at hv;obtain ⟨⟨rfl,rfl⟩,rfl⟩:=hv;have hw:w.heap[g']? = some (.cells cur e (0,0)):=l0 _ _ hh;have hle:n*sz≤cap*sz:=ao2 _ h2;have hr:=K1 (P:=P) (ty:=ty) (sT:=sT) (dLen:=dLen) (dCap:=dCap) (o:=o0+o) ht he hi hw (hsl w H) (by omega) h1;generalize hnw:news.take (min m dLen*sz)=nw at *;generalize min m dLen=q at *;refine ⟨w.setRow g' (spl cur.toList (o0+o) nw).toArray,?_,H.upd (B:=row e sz (.slice (some ⟨g',o0,none⟩) n cap) n (spl cs o nw)) k hF (Fr.setRow w g' _) (fun h4' l4 hA4=> ?_) hG⟩
 ·intro ρ q hρ ho hty;subst hty;simp only [execOp,ho,resolve,invoke,builtin,Sem.run_bind,Sem.run_pure,Result.andThen];have e1:Array.map ρ #[x,y] = #[.slice (some ⟨g',o0+o,none⟩) dLen dCap,vx]:=by simp [hρ _ _ hx,hρ _ _ hy]
  simp only [e1,hr]
 ·have h4g:h4' g'=some (.cells cur e (0,0)):=by
   rcases hA4.2 with ⟨hv4,_⟩ | ⟨g5,off5,cap5,cur5,hv5,hh5,_⟩
   ·cases hv4
   ·simp only [Value.slice.injEq,ane,Addr.mk.injEq] at hv5;obtain ⟨⟨rfl,_⟩,_⟩:=hv5;have:=(l4 _ _ hh5).symm.trans hw;rw [hh5];exact this
  refine ⟨fun q _ hq=>by subst hq;rw [h4g];simp,_,yg (h:=ph _) (setRow_heap w g' cur _ e _ hw),⟨by rw [yd (by omega)];exact hl,.inr ⟨g',o0,cap,_,rfl,yi g' _,h2,h3,?_,?_⟩⟩,fun q hq=> .inl (by rw [yh hq,h4g];simp)⟩
  ·have hc9:cur.toList.length=cur.size:=aok;have hl9:o0+o+nw.length≤cur.toList.length:=by omega
   rw [apz,yd hl9,hc9];exact h4
  ·show ((spl cur.toList (o0+o) nw).drop o0).take (n*sz)=spl cs o nw;have e1:cs=(cur.toList.drop o0).take (n*sz):=h5.symm;apply aqy;intro j;have hcl:cur.toList.length=cur.size:=aok;simp only [spl,aoq,aow,List.getElem?_append,anm,am9,aoi,e1];simp only [hcl];by_cases h1:j<n*sz
   ·rw [if_pos h1];by_cases h2:j<o
    ·rw [if_pos (by omega),if_pos (by omega),if_pos (by omega),if_pos h2,if_pos h1]
    ·by_cases h3:j - o<nw.length
     ·rw [if_neg (by omega),if_pos (by omega),if_neg (by omega),if_pos (by omega)];congr 1;omega
     ·rw [if_neg (by omega),if_neg (by omega),if_neg (by omega),if_neg (by omega),if_pos (by omega)];congr 1;omega
   ·rw [if_neg h1,if_neg (by omega),if_neg (by omega),if_neg (by omega)]
theorem nr {dT sT elem s1 s2 g' e sz n cap o0 dLen dCap m at':Nat} {z1:Value} {f1:List (Nat × Nat)} {i:TI} {x y:Operand} {vx:Value} {cs cs' news:List Value} (k o:Nat) (hg:da l E g=some true) (hd:Nat.blt d N=true) (hop:op = .call ⟨.builtin .copy,⟨[x,y]⟩,⟨[dT,sT]⟩⟩) (ht:tt dT=some ⟨.slice elem,s1,s2,z1,f1⟩) (he:tt elem=some i) (hi:Nat.beq i.size sz=true)
  (hx:ev E x=some (.slice (some ⟨g',at',none⟩) dLen dCap)) (hy:ev E y=some vx) (hF:nth F k=some (row e sz (.slice (some ⟨g',o0,none⟩) n cap) n cs)) (hc:spl cs o (news.take (min m dLen*sz))=cs') (hG:jl F k (row e sz (.slice (some ⟨g',o0,none⟩) n cap) n cs')=some G) (hat:at'=o0+o) (hsl:∀ w,Sat b F w→SL w sz vx m news) (hfit:o+min m dLen*sz≤cs.length) (h1:∀ u∈news.take (min m dLen*sz),u.oneCell'=true)
  (h:SO P ro N l rest Q ((d,.int .i64 ((min m dLen:Nat):Int))::E) ds b G):SO P ro N l (⟨some d,op,ty,pos,aft,g⟩::rest) Q E ds b F:=by
 subst hop;exact Yd hg hd (pJ k ht he hi hx hy hF hc hG hat hsl hfit h1) h
theorem nt {dT sT elem s1 s2 g' e sz n cap o0 dLen dCap m at':Nat} {z1:Value} {f1:List (Nat × Nat)} {i:TI} {x y:Operand} {vx:Value} {cs cs' news:List Value} (k o:Nat) (hg:da l E g=some true) (hf:fl ⟨some d,op,ty,pos,aft,g⟩=false) (hd:Nat.blt d N=true) (hop:op = .call ⟨.builtin .copy,⟨[x,y]⟩,⟨[dT,sT]⟩⟩) (ht:tt dT=some ⟨.slice elem,s1,s2,z1,f1⟩) (he:tt elem=some i) (hi:Nat.beq i.size sz=true)
  (hx:ev E x=some (.slice (some ⟨g',at',none⟩) dLen dCap)) (hy:ev E y=some vx) (hF:nth F k=some (row e sz (.slice (some ⟨g',o0,none⟩) n cap) n cs)) (hc:spl cs o (news.take (min m dLen*sz))=cs') (hG:jl F k (row e sz (.slice (some ⟨g',o0,none⟩) n cap) n cs')=some G) (hat:at'=o0+o) (hsl:∀ w,Sat b F w→SL w sz vx m news) (hfit:o+min m dLen*sz≤cs.length) (h1:∀ u∈news.take (min m dLen*sz),u.oneCell'=true) (hE:Ent G F0)
  (h:SD P fl ro N F0 l (kk+1) rest Q ((d,.int .i64 ((min m dLen:Nat):Int))::E) ds b G):SD P fl ro N F0 l kk (⟨some d,op,ty,pos,aft,g⟩::rest) Q E ds b F:=by
 subst hop
 constructor
 intro w H;obtain ⟨w',h2,h3⟩:=pJ (P:=P) (ty:=ty) k ht he hi hx hy hF hc hG hat hsl hfit h1 w H;exact kW hg hf h2 (h3.ent hE) hd (h.1 w' h3)
theorem lL {t ti e j m sz s1 s2 u1 u2 c:Nat} {q:IntKind} {z1 z2:Value} {f1 f2:List (Nat × Nat)} {i:TI} {x y:Operand} {A:Option Addr} {cs:List Value} (hg:da l E g=some true) (hd:Nat.blt d N=true)
  (hop:op = .call ⟨.builtin .append,⟨[x,y]⟩,⟨[t,ti]⟩⟩) (ht:tt t=some ⟨.slice e,s1,s2,z1,f1⟩) (hti:tt ti=some ⟨.int q,u1,u2,z2,f2⟩) (he:tt e=some i) (hi:(Nat.beq i.zero.cells.size sz&&Nat.beq i.size sz&&Nat.ble i.bytes 2097152&&Nat.blt 0 sz)=true)
  (hx:ev E x=some (.slice A j c)) (hy:ev E y=some (.int .i64 m)) (hsl:∀ w,Sat b F w→SL w sz (.slice A j c) j cs) (h0:0<m) (hn:j+m≤67108864) (hroom:c<j+m)
  (h:∀ gg c' zs,zs.length=m*sz→SO P ro N l rest Q ((d,.slice (some ⟨gg,0,none⟩) (j+m) c')::E) ds b (row e sz (.slice (some ⟨gg,0,none⟩) (j+m) c') (j+m) (cs++zs)::F)):SO P ro N l (⟨some d,op,ty,pos,aft,g⟩::rest) Q E ds b F:=by
 simp only [anw] at hi;obtain ⟨⟨⟨h1',h2'⟩,h3'⟩,h4'⟩:=hi;have e1:=an0 h1';have e2:=an0 h2';have e3:=anz h3';have e4:0<sz:=anz h4';subst e2
 constructor
 intro w H;subst hop;obtain ⟨k,hk,h2,h3,h4⟩:=TT.info (P:=P) e i he;have hu:=TT.und (P:=P) t _ ht Z;have hv:=TT.und (P:=P) ti _ hti Z;have hz:(Builtin.zeroCells i.zero.cells m).size=m*i.size:=by rw [size_zeroCells,e1]
 have hrun:(Builtin.append_ #[t,ti] ty #[.slice A j c,.int .i64 m]).run P w =
   .ok (.slice (some ⟨w.heap.size,0,none⟩) (j+m) (grownCap w (j+m) c e)) (w.drew.alloc (.cells (cs.toArray++Builtin.zeroCells i.zero.cells m++Builtin.zeroCells i.zero.cells (grownCap w (j+m) c e - (j+m))) e)):=by
  have hw:IntKind.i64.wrap (m:Int)=m:=I64.wrap (by unfold I64;omega);have hbytes:(j+m)*i.bytes≤140737488355328:=aoz (aro hn e3) (by decide);have hmb:m*i.bytes≤(j+m)*i.bytes:=ao2 _ (by omega);have a1:¬ ((m:Int)<0):=by omega
  have a2:¬ (281474976710656<(m:Int)*(i.bytes:Int)):=by
   have:((m*i.bytes:Nat):Int)≤140737488355328:=by omega
   rw [Int.natCast_mul] at this;omega
  have a3:m≠0:=by omega
  have a4:i.size≠0:=by omega
  have a5:¬ (9223372036854775807<((j:Int)+(m:Int))):=by omega
  have a6:¬ (281474976710656<Builtin.nextslicecap (j+m) c*i.bytes):=by
   have:=growslice_fits (need:=j+m) (old:=c) (by omega) hbytes;omega
  have a7:¬ (j+m≤c):=by omega
  have hf:(Builtin.firstCells i.size j (.slice A j c)).run P w.drew = .ok cs.toArray w.drew:=by
   obtain ⟨A',c',hv',hl,hc,hmx,hz0,hcell⟩:=hsl w.drew (H.ext (Fr.drew w));cases hv';cases A with
   | none =>
    have hj0:j=0:=by have:=hz0 Z;omega
    subst hj0;have:cs = []:=an3 (by simpa using hl);subst this;exact run_firstCells_none (P:=P) _ i.size 0 0 c
   | some a =>
    refine run_firstCells_some (P:=P) w.drew i.size j a j c cs hl fun k u hk=> ?_;have hlt:k<cs.length:=(ann.1 hk).1;have hj0:0<j:=by
     rcases aoo j with h | h
     ·subst h;omega
     ·exact h
    obtain ⟨b',off',hab,hb,hcc⟩:=hcell hj0;cases hab;have ha:(⟨b',off',none⟩:Addr).add k=⟨b',off'+k,none⟩:=by unfold Addr.add;split <;> simp_all
    rw [ha,hcc k hlt,hk]
  have a8:¬ (m=0∨i.size=0):=by omega
  simp [Builtin.append_,run_underlying hu,run_underlying hv,sizeOf,typeInfo,hk,h2,h3,h4,zeroValue,asInt,asIntOf,hw,a1,a2,a3,a4,a5,a6,a7,Question.forced,hf,newRow,grownCap];intro h9;exact absurd (Nat.mul_eq_zero.1 h9) a8
 refine ek (w':=w.drew.alloc (.cells (cs.toArray++Builtin.zeroCells i.zero.cells m++Builtin.zeroCells i.zero.cells (grownCap w (j+m) c e - (j+m))) e)) hg ?_ hd ((h w.heap.size (grownCap w (j+m) c e) (Builtin.zeroCells i.zero.cells m).toList (by rw [aok,hz])).1 _ ?_)
 ·intro ρ o hρ hop' hty;subst hty;simp only [execOp,hop',resolve,invoke,builtin,Sem.run_bind,Sem.run_pure,Result.andThen];have e1:Array.map ρ #[x,y] = #[.slice A j c,.int .i64 m]:=by simp [hρ _ _ hx,hρ _ _ hy]
  simp only [e1,hrun]
 ·have hge:=grownCap_ge w (j+m) c e;have hgm:=grownCap_le_maxLen w (j+m) c e (by unfold maxLen;omega);obtain ⟨_,_,_,hl,_⟩:=hsl w H;refine H.newOat ((Fr.drew w).trans (Fr.alloc _ _)) ⟨by simp only [am9,aok,hz,hl,arc],.inr ⟨w.heap.size,0,_,_,rfl,aoc _,heap_alloc_new w.drew _,hge,hgm,?_,?_⟩⟩
  ·simp only [Array.size_append,apz,size_zeroCells,e1,hl,← arc,aob];apply Nat.le_of_eq;congr 1;omega
  ·simp only [Array.toList_append,arn];refine ape ?_;simp only [am9,aok,apz,hz,hl,arc]
theorem gU {e sz n g' off cap:Nat} {cs:List Value} {Gf:List Value→List SP} (k:Nat) (hk:nth F k=some (row e sz (.slice (some ⟨g',off,none⟩) n cap) n cs)) (hn:n<cap) (hG:∀ zs,jl F k (row e sz (.slice (some ⟨g',off,none⟩) (n+1) cap) (n+1) (cs++zs))=some (Gf zs))
  (h:∀ zs,zs.length=sz→SO P ro N l rest Q E ds b (Gf zs)):SO P ro N l rest Q E ds b F:=⟨fun w H=>by
 obtain ⟨h0,l0,hA⟩:=H.mem.get hk;obtain ⟨hl,⟨hv,_⟩ | ⟨g2,off2,cap2,cur,hv,hh,h2,h3,h4,h5⟩⟩:=hA
 ·cases hv
 simp only [Value.slice.injEq,ane,Addr.mk.injEq,true_and,aq7] at hv;obtain ⟨⟨rfl,rfl⟩,rfl⟩:=hv;have hle:(n+1)*sz≤cap*sz:=ao2 _ hn;have hle2:(n+1)*sz=n*sz+sz:=by rw [arc,Nat.one_mul]
 have hcl:cur.toList.length=cur.size:=aok
 let zs:=(cur.toList.drop (off+n*sz)).take sz
 have hz:zs.length=sz:=by
  show ((cur.toList.drop (off+n*sz)).take sz).length=sz;rw [anm,aoi];omega
 refine (h zs hz).1 w <| H.upd k hk (Fr.refl (fun _=>False) w) (fun h4' l4 hA4=> ?_) (hG zs);have hw:w.heap[g']? = some (.cells cur e (0,0)):=l0 _ _ hh;refine ⟨fun _ _ hq=>hq.elim,h4',l4,⟨by rw [am9,hl,hz,hle2],.inr ⟨g',off,cap,cur,rfl,?_,by omega,h3,h4,?_⟩⟩,fun q hq=> .inl hq⟩
 ·rcases hA4.2 with ⟨hv4,_⟩ | ⟨g5,off5,cap5,cur5,hv5,hh5,_⟩
  ·cases hv4
  ·simp only [Value.slice.injEq,ane,Addr.mk.injEq] at hv5;obtain ⟨⟨rfl,_⟩,_⟩:=hv5;have:=(l4 _ _ hh5).symm.trans hw;rw [hh5];exact this
 ·show (cur.toList.drop off).take ((n+1)*sz)=cs++(cur.toList.drop (off+n*sz)).take sz;rw [hle2,List.take_add,h5,arm]⟩
theorem Sat.ne_row {w:World} (h:Sat b F w) {i j g' g2 t off e sz n cap:Nat} {cs ds:List Value} (hi:nth F i=some (pt g' t cs)) (hj:nth F j=some (row e sz (.slice (some ⟨g2,off,none⟩) n cap) n ds)) (hij:i≠j):g'≠g2:=by
 rintro rfl;obtain ⟨H,a,b',c⟩:=h.mem;have h1:H i g'≠none:=by rw [show H i g'=_ from c i _ hi];simp
 have h2:H j g'≠none:=by
  rcases (c j _ hj).2 with ⟨hv,_⟩ | ⟨g5,off5,cap5,cur5,hv,hh,_⟩
  ·cases hv
  ·simp only [Value.slice.injEq,ane,Addr.mk.injEq] at hv;obtain ⟨⟨rfl,_⟩,_⟩:=hv;rw [hh];simp
 rcases b' i j hij g' with h3 | h3
 ·exact h1 h3
 ·exact h2 h3
theorem zH {f:FuncId} {fn:Func} {tS tR e' s1 s2 ga oa la ca gb ob lb cb t1 e2 sz off n cap:Nat} {z1:Value} {f1:List (Nat × Nat)} {i:TI} {cs1 cs2:List Value} (k1 k2:Nat) (hg:da l E g=some true) (hx:z5 E op=some (f,[.slice (some ⟨ga,oa,none⟩) la ca,.slice (some ⟨gb,ob,none⟩) lb cb])) (hd:Nat.blt d N=true)
  (hf : P.funcs[f]? = some fn) (hname : (fn.name == "runtime.NumGoroutine") = false) (hb : fn.body.isNone = true) (hn : Extern.findNext fn = none) (he : Extern.find fn = some (Extern.SlicesOverlaps.overlaps #[tS, tS] #[tR])) (ht : tt tS = some ⟨.slice e', s1, s2, z1, f1⟩) (hel : tt e' = some i)
  (hF1:nth F k1=some (pt ga t1 cs1)) (hF2:nth F k2=some (row e2 sz (.slice (some ⟨gb,off,none⟩) n cap) n cs2)) (hk:Nat.beq k1 k2=false) (h0:0<cap*sz)
  (h:SO P ro N l rest Q ((d,.bool false)::E) ds b F):SO P ro N l (⟨some d,op,ty,pos,aft,g⟩::rest) Q E ds b F:=by
 refine nR hg hx hd (fun w H=> ?_) h;have B:=H.blk hF1;have hne:=H.ne_row hF1 hF2 (by intro hc;subst hc;rw [aqn] at hk;cases hk);obtain ⟨h1,l1,hA⟩:=H.mem.get hF2;have hrow:∃ cur:Array Value,w.heap[gb]? = some (.cells cur e2 (0,0))∧0<cur.size:=by
  rcases hA.2 with ⟨hv,_⟩ | ⟨g5,off5,cap5,cur5,hv,hh,_,_,h4,_⟩
  ·cases hv
  ·simp only [Value.slice.injEq,ane,Addr.mk.injEq] at hv;obtain ⟨⟨rfl,rfl,_⟩,_,rfl⟩:=hv;exact ⟨cur5,l1 _ _ hh,by omega⟩
 obtain ⟨cur,hw,hcs⟩:=hrow;rw [run_callFunc_extern hf hname hb hn he];have hr:=Go.Lib.run_overlaps_apart (P:=P) w tS tR e' (TT.und (P:=P) tS _ ht Z) i.size (fun w=>TT.run_size (P:=P) hel w) ⟨ga,oa,none⟩ ⟨gb,ob,none⟩ la ca lb cb hne t1 e2 cs1.length cur.size (by simp [World.shape?,show w.heap[ga]? = _ from B]) (by simp [World.shape?,hw]) (by omega) (B.frozen _) (B.frozen _);show Result.andThen ((Extern.SlicesOverlaps.overlaps #[tS,tS] #[tR] #[.slice (some ⟨ga,oa,none⟩) la ca,.slice (some ⟨gb,ob,none⟩) lb cb]).run P w) _=_;rw [hr]
 rfl
end
end Go.Eng
namespace Go.Eng
open Go Go.RowKit

section
variable {P:Program} {ro:Option Nat} {l:List Oper} {Q Q':Exit→Act→World→Prop} {S:World→Prop} {fl:Oper→Bool} {y:Nat} {oy:Oper}
end
section
variable {fl:Oper→Bool} {l:List Oper} {y:Nat} {oy:Oper}
end
section
variable {P:Program} {fl:Oper→Bool} {ro:Option Nat} {N:Nat} {l:List Oper} {Q Q':Exit→Act→World→Prop} {E:List (Nat × Value)} {ds:List Deferred} {b:World} {F F0:List SP} {y:Nat} {oy:Oper}
end
end Go.Eng
namespace Go.Eng
open Go Go.RowKit

section
variable {P:Program} {tt:Nat→Option TI} [TT P tt] {ro:Option Nat} {N n x0:Nat} {l rest:List Oper} {Q:Exit→Act→World→Prop} {E E0:List (Nat × Value)} {ds:List Deferred} {b:World} {F F0:List SP} {fl:Oper→Bool}

variable {D:List FR2} {d:Nat} {op:Op} {ty:TypeId} {pos:String} {aft:Array Edge} {g:Option (Nat × Bool)} {v:Value}
end
end Go.Eng
namespace Go.Eng
open Go Go.RowKit

def ke (R X:List Nat):List Nat:=R.filter fun k=> !X.contains k
def isE (fl:Oper→Bool) (l:List Oper) (e:Nat):Bool:=match l[e]? with | some o=> !fl o | none=>false
def rdF (l:List Oper) (R:List Nat) (e:Nat):List Nat:=R.filter fun k=>(pv l e).contains k
def en (fl:Oper→Bool) (l:List Oper) (R:List Nat):List Nat:=R.filter fun e=>isE fl l e&&R.all fun x=> !(isE fl l x&&(pv l e).contains x)
def Nq (l:List Oper):Bool :=
 wo l&&(List.range l.length).all fun i=>(pv l i).all (Nat.blt · i)&&match l[i]? with
  | none => true
  | some o => (List.range i).all fun j => match l[j]? with
   | none => true
   | some p => if (pv l i).contains j then (pv l j).all (pv l i).contains else p.apart l.toArray o && o.apart l.toArray p

section
variable {P:Program} {ro:Option Nat} {l:List Oper} {Q Q':Exit→Act→World→Prop} {S:World→Prop} {fl:Oper→Bool}
theorem Nr {o p:Oper} {a:Act} {u:Value} {w:World} {n:Value→World→Prop} (hs:yf o=true) (h:o9 l p o):Eff P ro o (a.put p.dst u) w n↔Eff P ro o a w n:=by
 unfold Eff;rw [zm hs h]
theorem Tx.firstU (hns:∀ (i:Nat) (o:Oper),l[i]? = some o→yf o=true) {i:Nat} {oi:Oper} (hi:l[i]? = some oi)
  (hQ:∀ a w,S w→Q .normal a w→∃ v,Fl P l S oi a v∧Q' .normal (a.put oi.dst v) w) :
  ∀ (R:List Nat) (a:Act) (w:World),(∀ r∈R,∀ p:Oper,l[(r:Nat)]? = some p→o9 l p oi)→S w→Tx P fl ro l S Q R a w →
   ∃ v,Fl P l S oi a v∧Tx P fl ro l S Q' R (a.put oi.dst v) w:=by
 intro R
 induction R with
 | nil => intro a w _ hS h; exact hQ a w hS h
 | cons r R1 ih =>
  intro a w hap hS h;obtain ⟨p,hp,hw,hn⟩:=h;have hapr:=hap r anl p hp;have hap':∀ r∈R1,∀ p:Oper,l[(r:Nat)]? = some p→o9 l p oi:=fun r hr=>hap r (ank _ hr)
  have hsp:=hns _ _ hp;have hsi:=hns _ _ hi;cases hwant:Region.wanted p (yielded l.toArray a.tmps) with
  | false =>
   obtain ⟨v,hv,ht⟩:=ih _ w hap' hS (hn hwant);refine ⟨v,(Fl.put hsi hapr).1 hv,p,hp,fun hc=> ?_,fun _=> ?_⟩
   ·rw [pq hapr.symm,hwant] at hc;cases hc
   ·rw [zn hapr.symm];exact ht
  | true =>
   rcases hw hwant with ⟨hfp,u,hu,ht0⟩ | ⟨hfp,he⟩
   ·obtain ⟨v,hv,ht⟩:=ih _ w hap' hS ht0;refine ⟨v,(Fl.put hsi hapr).1 hv,p,hp,fun _=> .inl ⟨hfp,u,?_,?_⟩,fun hc=> ?_⟩
    ·rw [zm hsp hapr.symm];exact hu
    ·rw [zn hapr.symm];exact ht
    ·rw [pq hapr.symm,hwant] at hc;cases hc
   ·obtain ⟨u0,w0,hS0,ht0⟩:=he.some;obtain ⟨v,hv,_⟩:=ih _ w0 hap' hS0 ht0;have hv:=(Fl.put hsi hapr).1 hv;refine ⟨v,hv,p,hp,fun _=> .inr ⟨hfp,?_⟩,fun hc=> ?_⟩
    ·rw [Nr hsp hapr.symm];refine he.mono ?_;rintro u w' ⟨hS',ht'⟩;obtain ⟨v',hv',ht''⟩:=ih _ w' hap' hS' ht';have hv':=(Fl.put hsi hapr).1 hv';have:=Fl.unique hS' hv hv';subst this;refine ⟨hS',?_⟩;rw [zn hapr.symm];exact ht''
    ·rw [pq hapr.symm,hwant] at hc;cases hc
def GX (P:Program) (fl:Oper→Bool) (ro:Option Nat) (l:List Oper) (Q:Exit→Act→World→Prop):Nat→List Nat→(World→Prop)→Act→World→Prop
 | 0, _, _, a, w => Q .normal a w
 | n + 1, R, S, a, w => (en fl l R = [] → Tx P fl ro l S Q R a w) ∧ ∀ e ∈ en fl l R, Tx P fl ro l S (fun _ a w => ∃ S' : World → Prop, (∀ w, S w → S' w) ∧ Tx P fl ro l S' (fun _ => GX P fl ro l Q n (ke R (e :: rdF l R e)) S') [e] a w) (rdF l R e) a w
theorem gV {R X:List Nat} {k:Nat}:k∈ke R X↔k∈R∧k∉X:=by simp [ke]
theorem xJ {R X:List Nat} {e:Nat} (h:e∈R):(ke R (e::X)).length<R.length:=by
 unfold ke;rw [List.length_filter_lt_length_iff_exists];exact ⟨e,h,by simp⟩
theorem pK {R R1 R2:List Nat} {i:Nat} (h:R=R1++i::R2) (hs:R.Pairwise (· < ·)):ke R [i]=R1++R2∧(∀ r∈R1,r<i)∧i∉R1∧i∉R2:=by
 subst h;obtain ⟨_,h2,h3⟩:=aof.1 hs;have h1:∀ r∈R1,r<i:=fun r hr=>h3 r hr i anl
 have h4:∀ r∈R2,i<r:=(aod.1 h2).1;have n1:i∉R1:=fun h=>absurd (h1 i h) (Nat.lt_irrefl i)
 have n2:i∉R2:=fun h=>absurd (h4 i h) (Nat.lt_irrefl i)
 refine ⟨?_,h1,n1,n2⟩;have e:∀ {L:List Nat},i∉L→L.filter (fun k=> !([i]:List Nat).contains k)=L:=fun h=>aom.2 fun k hk=>by simpa using fun (e:k=i)=>h (e▸hk)
 unfold ke;rw [aov,aor,e n1,e n2];simp
theorem Ix (h:Nq l=true):wo l=true∧(∀ (i j:Nat),j∈pv l i→i<l.length→∀ k∈pv l j,k∈pv l i)∧∀ (i j:Nat) (o p:Oper),l[i]? = some o→l[j]? = some p→j<i→j∈pv l i∨o9 l p o:=by
 simp only [Nq,anw] at h;have key:∀ (i j:Nat) (o p:Oper),l[i]? = some o→l[j]? = some p→j<i→(if (pv l i).contains j then (pv l j).all (pv l i).contains else p.apart l.toArray o&&o.apart l.toArray p)=true:=fun i j o p ho hp hji=>by
  have:=an4.1 h.2 i (aoa.2 (ann.1 ho).1);rw [anw] at this;have:=this.2;simp only [ho] at this;have:=an4.1 this j (aoa.2 hji);simpa only [hp] using this
 refine ⟨h.1,fun i j hj hil k hk=> ?_,fun i j o p ho hp hji=> ?_⟩
 ·have hji:j<i:=by
   have:=an4.1 h.2 i (aoa.2 hil);rw [anw] at this;exact anz (an4.1 this.1 j hj)
  have:=key i j _ _ (am8 hil) (am8 (by omega)) hji;rw [if_pos (apg.2 hj)] at this;exact apg.1 (an4.1 this k hk)
 ·have:=key i j o p ho hp hji;by_cases hc:j∈pv l i
  ·exact .inl hc
  ·rw [if_neg (by rwa [apg]),anw] at this;exact .inr ⟨this.1,this.2⟩
theorem GX.first (hok:Nq l=true) {i:Nat} {oi:Oper} (hoi:l[i]? = some oi) (hf:fl oi=true):∀ (n:Nat) (R:List Nat) (S:World→Prop) (a:Act) (w:World),R.Pairwise (· < ·)→(∀ r∈R,r<l.length)→i∈R→R.length≤n→(∀ x∈R,x∉pv l i)→S w→GX P fl ro l Q n R S a w →
   ∃ v,Fl P l S oi a v∧GX P fl ro l Q n (ke R [i]) S (a.put oi.dst v) w
 | 0, R, _, _, _, _, _, hi, hn, _, _, _ => by
  rw [an3 (Nat.le_zero.1 hn)] at hi;cases hi
 | n + 1, R, S, a, w, hs, hlt, hi, hn, hx, hS, h => by
  obtain ⟨hb,htr,hp⟩:=Ix hok;have hns:=gP hb;obtain ⟨h1,h2⟩:=h;have hil:i<l.length:=hlt i hi;have hei:isE fl l i=false:=by simp only [isE,hoi,hf,Bool.not_true]

  have hen:∀ {e},e∈en fl l (ke R [i])↔e∈en fl l R:=fun {e}=>by
   simp only [en,anx,gV,anw,an4,anc]
   constructor
   ·rintro ⟨⟨a1,a2⟩,a3,a4⟩;refine ⟨a1,a3,fun x hx'=> ?_⟩;by_cases hxi:x=i
    ·rw [hxi,hei];rfl
    ·exact a4 x ⟨hx',hxi⟩
   ·rintro ⟨a1,a3,a4⟩;exact ⟨⟨a1,fun e'=>by rw [e',hei] at a3;cases a3⟩,a3,fun x hx'=>a4 x hx'.1⟩
  have apl:∀ r∈R,r<i→∀ p:Oper,l[r]? = some p→o9 l p oi:=fun r hr hri p hpr=>(hp i r oi p hoi hpr hri).resolve_left (hx r hr)
  have branch:∀ e∈en fl l R,∃ v,Fl P l S oi a v∧Tx P fl ro l S (fun _ a w=>∃ S':World→Prop,(∀ w,S w→S' w)∧Tx P fl ro l S' (fun _=>GX P fl ro l Q n (ke (ke R [i]) (e::rdF l (ke R [i]) e)) S') [e] a w) (rdF l (ke R [i]) e) (a.put oi.dst v) w:=fun e he=>by
   have he':=anx.1 he;have heR:=he'.1;have hel:=hlt e heR;have hene:e≠i:=fun e'=>by
    have h3:=he'.2;rw [e',hei] at h3;simp only [Bool.false_and] at h3;cases h3
   have ht:=h2 e he;have hLR:∀ r∈rdF l R e,r∈R∧r∈pv l e:=fun r hr=>by
    have:=anx.1 hr;exact ⟨this.1,apg.1 this.2⟩
   have hLs:(rdF l R e).Pairwise (· < ·):=ao4 _ hs;have hcom:rdF l (ke R [i]) e=ke (rdF l R e) [i]:=by
    unfold rdF ke;rw [aqt,aqt];exact ap6 fun k _=>Bool.and_comm _ _
   by_cases hiL:i∈rdF l R e
   ·obtain ⟨L1,L2,hL⟩:=ao3 hiL;obtain ⟨m1,m2,m3,m4⟩:=pK hL hLs;rw [hL] at ht;obtain ⟨v,hv,ht'⟩:=Tx.first hns hoi hf L1 a w (fun r hr p hpr=>apl r (hLR r (by rw [hL];exact an5 _ hr)).1 (m2 r hr) p hpr) hS ht;refine ⟨v,hv,?_⟩;rw [hcom,m1];have hR':ke (ke R [i]) (e::(L1++L2))=ke R (e::rdF l R e):=by
     unfold ke;rw [aqt];refine ap6 fun k _=> ?_;rw [hL];by_cases k1:k=i <;> by_cases k2:k=e <;> simp [k1,k2]
    rw [hR',hL];exact ht'
   ·have hnia:i∉pv l e:=fun hc=>hiL (anx.2 ⟨hi,apg.2 hc⟩)
    have hap:∀ r∈R,(r=e∨r∈pv l e)→∀ p:Oper,l[r]? = some p→o9 l p oi:=fun r hr hre p hpr=>by
     rcases Nat.lt_trichotomy r i with hlt' | heq | hgt
     ·exact apl r hr hlt' p hpr
     ·subst heq;rcases hre with rfl | hre
      ·exact absurd Z hene
      ·exact absurd hre hnia
     ·rcases hp r i p oi hpr hoi hgt with hc | hc
      ·rcases hre with rfl | hre
       ·exact absurd hc hnia
       ·exact absurd (htr e r hre hel i hc) hnia
      ·exact hc.symm
    have hmi:ke (rdF l R e) [i]=rdF l R e:=aom.2 fun k hk=>by simpa using fun (e':k=i)=>hiL (e'▸hk)
    rw [hcom,hmi];have hR':ke (ke R [i]) (e::rdF l R e)=ke (ke R (e::rdF l R e)) [i]:=by
     unfold ke;rw [aqt,aqt];exact ap6 fun k _=>Bool.and_comm _ _
    rw [hR'];refine Tx.firstU hns hoi (fun a w hS h=> ?_) _ a w (fun r hr p hpr=>hap r (hLR r hr).1 (.inr (hLR r hr).2) p hpr) hS ht;obtain ⟨S',hSS,h⟩:=h;obtain ⟨v,hv,h'⟩:=Tx.firstU (Q':=fun _=>GX P fl ro l Q n (ke (ke R (e::rdF l R e)) [i]) S') hns hoi (fun a w hS h=>GX.first hok hoi hf n _ S' a w (ao4 _ hs) (fun r hr=>hlt r (gV.1 hr).1) (gV.2 ⟨hi,fun hc=>(anj.1 hc).elim (fun e'=>hene e'.symm) hiL⟩)
     (by have:=xJ heR (X:=rdF l R e);omega) (fun x hx'=>hx x (gV.1 hx').1) hS h) [e] a w (fun r hr p hpr=>by
      rw [anc.1 hr] at hpr;exact hap e heR Zl p hpr) (hSS w hS) h
    exact ⟨v,⟨fun hw W hW=>hv.1 hw W (hSS W hW),hv.2⟩,S',hSS,h'⟩
  by_cases hnil:en fl l R = []
  ·obtain ⟨R1,R2,hR⟩:=ao3 hi;obtain ⟨m1,m2,_⟩:=pK hR hs;have ht:=h1 hnil;rw [hR] at ht;obtain ⟨v,hv,ht'⟩:=Tx.first hns hoi hf R1 a w (fun r hr p hpr=>apl r (by rw [hR];exact an5 _ hr) (m2 r hr) p hpr) hS ht;exact ⟨v,hv,fun _=>by rw [m1];exact ht',fun e he=>by rw [hen,hnil] at he;cases he⟩
  ·obtain ⟨e0,he0⟩:=apx _ hnil;obtain ⟨v,hv,_⟩:=branch e0 he0;refine ⟨v,hv,fun hc=> ?_,fun e he=> ?_⟩
   ·have:=hen.2 he0;rw [hc] at this;cases this
   ·obtain ⟨v',hv',ht⟩:=branch e (hen.1 he);rw [Fl.unique hS hv hv'];exact ht
theorem K2 {listed:Array Bool} {i:Nat} (hsz:listed.size=l.length) (hi:i<l.length):left l (listed.setIfInBounds i true)=ke (left l listed) [i]:=by
 unfold left ke;rw [aqt];refine ap6 fun j _=> ?_;by_cases hij:i=j
 ·subst hij;simp [hsz,hi]
 ·rw [getD_set_ne true hij];simp [Ne.symm hij]
theorem K3 (hok:Nq l=true) (hm:P.follows .mixedOrders=true) {id n:Nat} {a:Act} {w:World} (hn:l.length≤n) (hS:S w.drew) (h:GX P fl ro l Q n (List.range l.length) S a w.drew):(Code.region id l.toArray true).wpIn (FR ro) 0 P Q a w:=by
 obtain ⟨hb,_,_⟩:=Ix hok;have hl0:left l (Array.replicate l.length false)=List.range l.length:=by
  unfold left;rw [aom];intro i hi;simp [aoa.1 hi]
 have hls:∀ listed:Array Bool,(left l listed).Pairwise (· < ·):=fun _=>ao4 _ aqk
 have hll:∀ (listed:Array Bool),∀ r∈left l listed,r<l.length:=fun _ r hr=>aoa.1 (anx.1 hr).1
 refine jN hb hm (fun listed a w=>∃ (n:Nat) (S:World→Prop),(left l listed).length≤n∧S w∧GX P fl ro l Q n (left l listed) S a w) ⟨n,S,by rw [hl0,aq9];exact hn,hS,by rw [hl0];exact h⟩ ?_ ?_
 ·rintro listed a w i o hsz hcl ⟨n,S,hn,hS,h⟩ ho hf hdeps;have hil:i<l.length:=(ann.1 ho).1;have hanc:∀ r∈pv l i,listed.getD r false=true:=fun r hr=>uv hcl l [] [] Z Z (fun i o h=>by simp at h) i o ho hdeps r hr
  have hmem:∀ r,r∈left l listed↔r<l.length∧listed.getD r false=false:=fun r=>by
   unfold left;rw [anx,aoa];refine and_congr_right fun hr=> ?_;rw [jn (by omega)];simp
  have hi:i∈left l listed:=(hmem i).2 ⟨hil,hf⟩;have hx:∀ x∈left l listed,x∉pv l i:=fun x hx hc=>by
   have h1:=hanc x hc;rw [((hmem x).1 hx).2] at h1;cases h1
  unfold Xz;dsimp only;rw [K2 hsz hil];have hlen:(ke (left l listed) [i]).length≤n:=aoz (apc _ _) hn;cases hfo:fl o with
  | true =>
   obtain ⟨v,hv,h'⟩:=GX.first hok ho hfo n _ S a w (hls listed) (hll listed) hi hn hx hS h;refine ⟨fun hw=> ?_,fun hw=> ?_⟩
   ·unfold Eff;rw [hv.1 hw w hS];exact ⟨n,S,hlen,hS,h'⟩
   ·rw [hv.2 hw] at h';exact ⟨n,S,hlen,hS,h'⟩
  | false =>
   cases n with
   | zero => rw [an3 (Nat.le_zero.1 hn)] at hi; cases hi
   | succ n =>
    have hie:isE fl l i=true:=by simp only [isE,ho,hfo,Bool.not_false]
    have hen:i∈en fl l (left l listed):=anx.2 ⟨hi,by
     rw [hie,arj];refine an4.2 fun x hx'=> ?_;have:(pv l i).contains x=false:=by
      cases hc:(pv l i).contains x with
      | false => rfl
      | true => exact absurd (apg.1 hc) (hx x hx')
     rw [this,Bool.and_false];rfl⟩
    have hrd:rdF l (left l listed) i = []:=ap5.2 fun x hx' hc=>hx x hx' (apg.1 hc)
    have h1:=h.2 i hen;rw [hrd] at h1;obtain ⟨S',hSS,o',ho',hw,hn'⟩:=h1;rw [ho] at ho';cases ho';have hlen':(ke (left l listed) [i]).length≤n:=by have:=xJ hi (X:= []);omega
    refine ⟨fun hw'=> ?_,fun hw'=>⟨n,S',hlen',hSS w hS,hn' hw'⟩⟩;rcases hw hw' with ⟨hf',_⟩ | ⟨_,he⟩
    ·rw [hfo] at hf';cases hf'
    ·exact he.mono fun v w' ⟨hS',h'⟩=>⟨n,S',hlen',hS',h'⟩
 ·rintro listed a w hsz ⟨n,S,hn,hS,h⟩ hall;have hnil:left l listed = []:=List.eq_nil_iff_forall_not_mem.2 fun i hi=>by
   have h1:=anx.1 hi;have h2:=aoa.1 h1.1;rw [jn (by omega),hall i h2] at h1;cases h1.2
  rw [hnil] at h;cases n with
  | zero => exact h
  | succ n => exact h.1 Z
theorem qQ:∀ {L L':List Nat} {a:Act} {w:World},(∀ a w,Tx P fl ro l S Q L' a w→Q' .normal a w)→Tx P fl ro l S Q (L++L') a w→Tx P fl ro l S Q' L a w
 | [], _, _, _, hQ, h => hQ _ _ h
 | i :: L, L', a, w, hQ, h => by
  obtain ⟨o,ho,hw,hn⟩:=h;refine ⟨o,ho,fun hwt=> ?_,fun hwt=>qQ hQ (hn hwt)⟩;rcases hw hwt with ⟨hf,v,hv,h'⟩ | ⟨hf,he⟩
  ·exact .inl ⟨hf,v,hv,qQ hQ h'⟩
  ·exact .inr ⟨hf,he.mono fun v w' ⟨hS,h'⟩=>⟨hS,qQ hQ h'⟩⟩
theorem lM:∀ {L L':List Nat} {a:Act} {w:World},Tx P fl ro l S (fun _=>Tx P fl ro l S Q L') L a w→Tx P fl ro l S Q (L++L') a w
 | [], _, _, _, h => h
 | i :: L, L', a, w, h => by
  obtain ⟨o,ho,hw,hn⟩:=h;refine ⟨o,ho,fun hwt=> ?_,fun hwt=>lM (hn hwt)⟩;rcases hw hwt with ⟨hf,v,hv,h'⟩ | ⟨hf,he⟩
  ·exact .inl ⟨hf,v,hv,lM h'⟩
  ·exact .inr ⟨hf,he.mono fun v w' ⟨hS,h'⟩=>⟨hS,lM h'⟩⟩
end
section
variable {P:Program} {fl:Oper→Bool} {ro:Option Nat} {N:Nat} {l:List Oper} {Q Q':Exit→Act→World→Prop} {E:List (Nat × Value)} {ds:List Deferred} {b:World} {F F0 F1:List SP}
structure SG (P:Program) (fl:Oper→Bool) (ro:Option Nat) (N:Nat) (F0:List SP) (l:List Oper) (n:Nat) (R:List Nat) (Q:Exit→Act→World→Prop) (E:List (Nat × Value)) (ds:List Deferred) (b:World) (F:List SP):Prop where
 run:∀ w,Sat b F w→∀ a,Kn N E a→a.defers=ds→Sat b F0 w→GX P fl ro l Q n R (Sat b F0) a w
structure SB (P:Program) (fl:Oper→Bool) (ro:Option Nat) (N:Nat) (F0:List SP) (l:List Oper) (n:Nat) (L:List Nat) (e:Nat) (R:List Nat) (Q:Exit→Act→World→Prop) (E:List (Nat × Value)) (ds:List Deferred) (b:World) (F:List SP):Prop where
 run:∀ w,Sat b F w→∀ a,Kn N E a→a.defers=ds→Sat b F0 w→Tx P fl ro l (Sat b F0) (fun _ a w=>∃ S':World→Prop,(∀ w,Sat b F0 w→S' w)∧Tx P fl ro l S' (fun _=>GX P fl ro l Q n R S') [e] a w) L a w
def jS (fl:Oper→Bool) (l:List Oper) (R:List Nat):List (Nat × List Nat):=(en fl l R).map fun e=>(e,rdF l R e)
def Sn (p:Nat→List Nat→Prop):List (Nat × List Nat)→Prop
 | [] => True
 | x :: B => p x.1 x.2 ∧ Sn p B
theorem Sn.mem {p:Nat→List Nat→Prop}:∀ {B:List (Nat × List Nat)},Sn p B→∀ x∈B,p x.1 x.2
 | _ :: _, h, _, hx => (anj.1 hx).elim (fun e => e ▸ h.1) fun hx => h.2.mem _ hx
theorem w9 (fl:Oper→Bool) (n:Nat) (F0:List SP) [hm:Mixed P] {id:Nat} (hok:Nq l=true) (hn:Nat.ble l.length n=true) (he:Ent F F0) (h:SG P fl ro N F0 l n (List.range l.length) Q E ds b F):SW P ro N (.region id l.toArray true) Q E ds b F:=⟨fun w H a hk hd =>
 K3 (S:=Sat b F0) hok hm.on (anz hn) ((H.ext (Fr.drew w)).ent he) (h.run _ (H.ext (Fr.drew w)) a hk hd ((H.ext (Fr.drew w)).ent he))⟩
theorem pg {n:Nat} {R:List Nat} (x:Nat × List Nat) (B:List (Nat × List Nat)) (hB:jS fl l R=x::B) (h:Sn (fun e L=>SB P fl ro N F0 l n L e (ke R (e::L)) Q E ds b F) (x::B)):SG P fl ro N F0 l (n+1) R Q E ds b F:=⟨fun w H a hk hd H0=>by
 refine ⟨fun hc=> ?_,fun e he=> ?_⟩
 ·unfold jS at hB;rw [hc] at hB;cases hB
 rw [← hB] at h;exact (h.mem (e,rdF l R e) (anb.2 ⟨e,he,rfl⟩)).run w H a hk hd H0⟩
theorem nX {k n:Nat} (hn:Nat.ble (k+n) l.length=true) (h:SD P fl ro N F0 l k ((l.drop k).take n) Q E ds b F) {w:World} (H:Sat b F w) {a:Act} (hk:Kn N E a) (hd:a.defers=ds) (H0:Sat b F0 w):Tx P fl ro l (Sat b F0) Q (List.range' k n) a w:=by
 have hn:=anz hn;have hl:((l.drop k).take n).length=n:=by rw [anm,aoi];omega
 have:=h.run w H a hk hd H0 (fun j hj=>by
  rw [hl] at hj;rw [aoq,if_pos hj,aow])
 rw [hl] at this;exact this
def QB (P:Program) (fl:Oper→Bool) (ro:Option Nat) (l:List Oper) (S:World→Prop) (n:Nat) (L:List Nat) (e:Nat) (R:List Nat) (Q:Exit→Act→World→Prop):Exit→Act→World→Prop:=fun _=>Tx P fl ro l S (fun _ a w=>∃ S':World→Prop,(∀ w,S w→S' w)∧Tx P fl ro l S' (fun _=>GX P fl ro l Q n R S') [e] a w) L
def QG (P:Program) (fl:Oper→Bool) (ro:Option Nat) (l:List Oper) (S:World→Prop) (n:Nat) (R:List Nat) (Q:Exit→Act→World→Prop):Exit→Act→World→Prop:=fun _=>GX P fl ro l Q n R S
theorem jm (k m:Nat) {n e:Nat} {L L2 R:List Nat} (hL:List.range' k m++L2=L) (hn:Nat.ble (k+m) l.length=true) (h:SD P fl ro N F0 l k ((l.drop k).take m) (QB P fl ro l (Sat b F0) n L2 e R Q) E ds b F):SB P fl ro N F0 l n L e R Q E ds b F:=⟨fun w H a hk hd H0=>by
 subst hL;exact lM (Q:=fun _ a w=>_) (nX hn h H hk hd H0)⟩
theorem s0 {n e:Nat} {L R:List Nat} (he:Ent F F0) (h:SB P fl ro N F0 l n L e R Q E ds b F):SN N (QB P fl ro l (Sat b F0) n L e R Q) .normal E ds b F:=⟨fun w H a hk hd=>h.run w H a hk hd (H.ent he)⟩
theorem io {n:Nat} {R:List Nat} (he:Ent F F0) (h:SG P fl ro N F0 l n R Q E ds b F):SN N (QG P fl ro l (Sat b F0) n R Q) .normal E ds b F:=⟨fun w H a hk hd=>h.run w H a hk hd (H.ent he)⟩
theorem jf (F1:List SP) {n e:Nat} {R:List Nat} (hn:Nat.ble (e+1) l.length=true) (h01:Ent F0 F1) (h:SD P fl ro N F1 l e ((l.drop e).take 1) (QG P fl ro l (Sat b F1) n R Q) E ds b F):SB P fl ro N F0 l n [] e R Q E ds b F:=⟨fun w H a hk hd H0 =>
 ⟨Sat b F1,fun w hw=>hw.ent h01,nX (n:=1) hn h H hk hd (H0.ent h01)⟩⟩
theorem xa (k m:Nat) {n e:Nat} {L R:List Nat} (hL:List.range' k m=L) (he:Nat.beq (k+m) e=true) (hn:Nat.ble (e+1) l.length=true) (h:SD P fl ro N F0 l k ((l.drop k).take (m+1)) (QG P fl ro l (Sat b F0) n R Q) E ds b F):SB P fl ro N F0 l n L e R Q E ds b F:=⟨fun w H a hk hd H0=>by
 subst hL;have he:=an0 he;subst he;have h':=nX (k:=k) (n:=m+1) hn h H hk hd H0;rw [List.range'_1_concat] at h';exact qQ (fun a w h=>⟨_,fun _ h=>h,h⟩) h'⟩
theorem nu (k m:Nat) {n:Nat} {R:List Nat} (hB:jS fl l R = [(k+m,List.range' k m)]) (hn:Nat.ble (k+m+1) l.length=true) (h:SD P fl ro N F0 l k ((l.drop k).take (m+1)) (QG P fl ro l (Sat b F0) n (ke R ((k+m)::List.range' k m)) Q) E ds b F):SG P fl ro N F0 l (n+1) R Q E ds b F :=
 pg _ _ hB ⟨xa k m Z (aqn _) hn h,trivial⟩
theorem yq (k m:Nat) {n:Nat} {R:List Nat} (hB:jS fl l R = []) (hR:R=List.range' k m) (hn:Nat.ble (k+m) l.length=true) (h:SD P fl ro N F0 l k ((l.drop k).take m) Q E ds b F):SG P fl ro N F0 l (n+1) R Q E ds b F:=⟨fun w H a hk hd H0=>by
 subst hR;exact ⟨fun _=>nX hn h H hk hd H0,fun e he=>by
  have:(e,rdF l _ e)∈jS fl l (List.range' k m):=anb.2 ⟨e,he,rfl⟩;rw [hB] at this;cases this⟩⟩
theorem lN (k m k2 m2:Nat) {n:Nat} {R:List Nat} (hB:jS fl l R = []) (hR:R=List.range' k m++List.range' k2 m2) (hn:Nat.ble (k+m) l.length=true) (h:SD P fl ro N F0 l k ((l.drop k).take m) (fun _=>Tx P fl ro l (Sat b F0) Q (List.range' k2 m2)) E ds b F):SG P fl ro N F0 l (n+1) R Q E ds b F:=⟨fun w H a hk hd H0=>by
 refine ⟨fun _=> ?_,fun e he=> ?_⟩
 ·subst hR;exact lM (nX hn h H hk hd H0)
 ·have:(e,rdF l _ e)∈jS fl l R:=anb.2 ⟨e,he,rfl⟩;rw [hB] at this;cases this⟩
theorem Ns {k m:Nat} (hn:Nat.ble (k+m) l.length=true) (he:Ent F F0) (h:SD P fl ro N F0 l k ((l.drop k).take m) Q E ds b F):SN N (fun _=>Tx P fl ro l (Sat b F0) Q (List.range' k m)) .normal E ds b F:=⟨fun w H a hk hd=>nX hn h H hk hd (H.ent he)⟩
theorem q8 {T:Type} (n:Nat) (R:List Nat) (Em:T→List (Nat × Value)) (Fm:T→List SP) (I:T→Prop) {n0:Nat} {R0:List Nat} (tail:∀ s,I s→SG P fl ro N F0 l n R Q (Em s) ds b (Fm s))
  (h:(∀ s R' E' F',I s→R'=R→Sub (Em s) E'→Ent F' (Fm s)→SG P fl ro N F0 l n R' Q E' ds b F')→SG P fl ro N F0 l n0 R0 Q E ds b F):SG P fl ro N F0 l n0 R0 Q E ds b F:=h fun s R' E' F' hI hR hs hF=>by
 subst hR;exact ⟨fun w H a hk hd H0=>(tail s hI).run w (H.ent hF) a (hk.sub hs) hd H0⟩
end
end Go.Eng
