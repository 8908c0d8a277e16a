/- Tables, part twenty-seven: places as keys of maps; entries struck while a map is gone through. Conditions: none. -/
import Derived.Test.YtbpdffopjkhelaaGreatX13
import Derived.Test.YtbpdffopjkhelaaGreatX12
import Derived.Test.YtbpdffopjkhelaaGreatX6
import Derived.Test.YtbpdffopjkhelaaGreatX5
import Derived.Test.YtbpdffopjkhelaaGreatX3
import Derived.Test.YtbpdffopjkhelaaGreatX10
import Derived.Test.YtbpdffopjkhelaaGreatX7
set_option maxRecDepth 20000
set_option maxHeartbeats 8000000
namespace Go.Proofs.YtbpdffopjkhelaaGreat
open Go Go.Eng Go.RowKit Go.WideMaps Go.Heap Go.MapKept
open Go.ChangeMaps (setBlock heap_setBlock_same heap_setBlock_other)

deriving instance DecidableEq for Spot
abbrev spV (s:Spot):Value:= .agg ⟨spC s⟩
abbrev bY (s:Spot):Prop:=s.repo.size≤maxLen∧s.tag.size≤maxLen
theorem Xj : ∃ fs, Tryz.prog.underlying dw = some (.struct fs) ∧ fs.toList.map (fun f => (f.type, f.offset)) = [(jv, 0), (jv, 1), (tb, 2)] ∧ fs.all (·.name != "_") = true := ⟨match Tryz.prog.underlying dw with | some (.struct fs) => fs | _ => #[], by kernel_rfl, by kernel_rfl, by kernel_rfl⟩
theorem vB:MK Tryz.prog dw spV bY where
 law:= .of (deep_law (m:=2) (by omega) (by kernel_rfl) (by kernel_rfl) (by obtain ⟨fs,h,_⟩:=Xj;rw [h]))
 of:=fun p hp=>by
  obtain ⟨fs,hu,hf,ha⟩:=Xj;have hkt:Tryz.prog.keyType dw=true:=by kernel_rfl
  have hsz:Tryz.prog.cellsOf dw=3:=by kernel_rfl
  have hcs:Tryz.prog.cellsOf jv=1:=by kernel_rfl
  have hcb:Tryz.prog.cellsOf tb=1:=by kernel_rfl
  have hus:Tryz.prog.underlying jv=some .string:=by kernel_rfl
  have hub:Tryz.prog.underlying tb=some .bool:=by kernel_rfl
  obtain ⟨m,hm⟩:∃ m,Tryz.prog.types.size=m+1:=⟨_,(by kernel_rfl:Tryz.prog.types.size=(Tryz.prog.types.size - 1)+1)⟩;obtain ⟨fl⟩:=fs
  match fl,hf with
  | [f1, f2, f3], hf =>
  simp only [ant,aqm,apf,an6,aq7] at hf;obtain ⟨⟨a1,a2⟩,⟨b1,b2⟩,c1,c2⟩:=hf;unfold keyOf;simp only [hu];rw [if_pos (by simp [hkt,Value.formed,hu,hsz,spV,spC]),hm];unfold Program.keyLits;simp only [hu,Value.cells,spV,spC];rw [if_pos ⟨by simp [hsz],ha⟩];simp [a1,a2,b1,b2,c1,c2,hcs,hcb,Program.keyLits,hus,hub,hp.1,hp.2]
 inj:=fun a c _ _ h=>by
  simp only [spV,spC,Value.agg.injEq,Array.mk.injEq,apf,Value.string.injEq,Value.bool.injEq,aq7] at h;cases a;cases c;simp only [Spot.mk.injEq];exact h
section
variable {P:Program} {k g:Nat} {α:Type} {K:α→Value} {ok:α→Prop} {l:List (α × Value)} {a:α} {w:World} {es:Array MapEntry} {clock:Nat}
theorem Q7 [DecidableEq α] (M:MK P k K ok) {t e ty:Nat} (ht:P.underlying t=some (.map k e)) (hb:w.heap[g]? = some (.map es clock)) (he:kvs es.toList=kvl K l) (hok:∀ x∈l,ok x.1) (hst:Stamped es clock) (ha:ok a) {t2:Nat} :
  ∃ es',(Builtin.delete_ #[t,t2] ty #[.map (some g),K a]).run P w = .ok (.tuple #[]) (setBlock w g (.map es' clock))∧kvs es'.toList=kvl K (zi a l)∧Stamped es' clock∧(es'=es∨∃ (j:Nat) (e0:MapEntry),es'.toList=es.toList.eraseIdx j∧es.toList[j]? = some e0∧e0.key=K a):=by
 obtain ⟨kl,hkl⟩:=M.of a ha;rcases M.law.find w hkl es.toList (qP M he hok) with ⟨h1,h2⟩ | ⟨j,e0,h1,h2,h3⟩
 ·refine ⟨es,?_,?_,hst,.inl rfl⟩
  ·simp [Builtin.delete_,run_underlying ht,MapKept.run_getObj_map hb,M.law.check w _ hkl,h1,MapKept.run_setObj_map _ hb,Result.andThen,setBlock]
  ·rw [((aN M ha he h2).2 (.bool true)).2];exact he
 ·have hjs:j<es.size:=by simpa using (ann.1 h2).1
  have hsub:(es.eraseIdxIfInBounds j).toList=es.toList.eraseIdx j:=by
   unfold Array.eraseIdxIfInBounds;rw [dif_pos hjs];simp
  refine ⟨es.eraseIdxIfInBounds j,?_,?_,stamped_erase hst j,.inr ⟨j,e0,hsub,h2,h3⟩⟩
  ·simp [Builtin.delete_,run_underlying ht,MapKept.run_getObj_map hb,M.law.check w _ hkl,h1,MapKept.run_setObj_map _ hb,Result.andThen,setBlock]
  ·rw [hsub];exact (aO M ha he hok hst.2.2 h2 h3).2.2
theorem kR {β γ:Type} {f:β→γ}:∀ {l:List β},(l.map f).Nodup→∀ {x y:β},x∈l→y∈l→f x=f y→x=y
 | [], _, _, _, hx, _, _ => by cases hx
 | z :: l, h, x, y, hx, hy, he => by
  rw [ant,ao6] at h;rcases anj.1 hx with h1 | h1
  ·rcases anj.1 hy with h2 | h2
   ·rw [h1,h2]
   ·exact (h.1 (anb.2 ⟨y,h2,by rw [← he,h1]⟩)).elim
  ·rcases anj.1 hy with h2 | h2
   ·exact (h.1 (anb.2 ⟨x,h1,by rw [he,h2]⟩)).elim
   ·exact kR h.2 h1 h2 he
theorem nF {β:Type} {p:β→Bool} {x:β}:∀ {l:List β} {j:Nat},l[j]? = some x→p x=false→(l.eraseIdx j).filter p=l.filter p
 | [], j, h, _ => by simp at h
 | y :: l, 0, h, hp => by
  simp only [List.getElem?_cons_zero,ane] at h;subst h;simp [hp]
 | y :: l, j + 1, h, hp => by
  simp only [aqz] at h;simp only [List.eraseIdx_cons_succ,aor,nF h hp]
end
section
variable {P:Program} {tt:Nat→Option Go.Eng.TI} [TT P tt] {ro:Option Nat} {N:Nat} {l rest:List Oper} {Q:Exit→Act→World→Prop} {E:List (Nat × Value)} {ds:List Deferred} {b:World} {F G:List SP}
 {op:Op} {ty:TypeId} {pos:String} {aft:Array Edge} {g:Option (Nat × Bool)}
 {α:Type} [DecidableEq α] {K:α→Value} {ok:α→Prop} {L R:List (α × Value)} {y:α × Value}
theorem Vc (q:Nat) {t k e s1 s2 gm gi t2:Nat} {z1:Value} {f1:List (Nat × Nat)} {m x:Operand} (M:MK P k K ok) (ha:ok y.1) (hg:da l E g=some true) (hop:op = .call {callee:= .builtin .delete,args:=#[m,x],argTypes:=#[t,t2]}) (ht:tt t=some ⟨.map k e,s1,s2,z1,f1⟩) (hm:ev E m=some (.map (some gm))) (hx:ev E x=some (K y.1))
  (hF:nth F q=some (mr gm gi K ok L R (some y))) (hG:jl F q (mr gm gi K ok (zi y.1 L) R none)=some G) (h:SO P ro N l rest Q E ds b G):SO P ro N l (⟨none,op,ty,pos,aft,g⟩::rest) Q E ds b F:=by
 subst hop;refine F3 hg (fun w H=> ?_) h;obtain ⟨m1,hl,es,clock,seen,a1,a2,a3,a4,a5,a6,a7⟩:=H.mem.get hF;have b1:w.heap[gm]? = some (.map es clock):=hl _ _ a1;have b2:w.heap[gi]? = some (.mapIter (some gm) clock seen clock):=hl _ _ a2;obtain ⟨es',h5,h6,h7,h8⟩:=Q7 (P:=P) (ty:=ty) (t2:=t2) M (TT.und (P:=P) _ _ ht Z) b1 a3 a4 a5 ha;refine ⟨setBlock w gm (.map es' clock),.tuple #[],?_,H.upd q hF (vt w gm) (fun m2 hl2 hA=> ?_) hG⟩
 ·intro ρ o hρ ho hty;simp [execOp,ho,hty,resolve,invoke,builtin,hρ _ _ hm,hρ _ _ hx,h5]
 obtain ⟨es2,c2,s2,q1,q2,_⟩:=hA;have hne:gi≠gm:=fun h=>by rw [h,b1] at b2;cases b2
 have hlf:(leftOf es' seen).toList=(leftOf es seen).toList:=by
  rcases h8 with rfl | ⟨j,e0,r1,r2,r3⟩
  ·rfl
  ·obtain ⟨e1,t1,⟨s,rfl⟩,t3,_⟩:=a7 y Z;have he:e0=e1:=kR a5.2.2 (aqf r2) t1 (r3.trans t3.symm);simp only [leftOf,Array.toList_filter,r1];exact nF r2 (by rw [he];simp)
 refine ⟨fun i _ hi=>by subst hi;rw [q1];simp,fun i=>if i=gm then some (.map es' clock) else if i=gi then some (.mapIter (some gm) clock seen clock) else none,fun i o hi=> ?_,⟨es',clock,seen,by simp,by simp [hne],h6,zA a4,h7,by rw [hlf];exact a6,fun x hx=>by cases hx⟩,fun i hi=> ?_⟩
 ·dsimp only at hi
  split at hi
  ·rename_i e2;subst e2;cases hi;exact eL b1
  ·split at hi
   ·rename_i e2;subst e2;cases hi
    show (setBlock w gm _).heap[i]? = _;rw [(vt (o:= .map es' clock) w gm).keep i (eI b2) hne];exact b2
   ·cases hi
 ·dsimp only at hi
  split at hi
  ·rename_i e2;subst e2;left;rw [q1];simp
  ·split at hi
   ·rename_i e2;subst e2;left;rw [q2];simp
   ·exact absurd Z hi
end

structure En where
 sp:Spot
 v:Value
 hs:List Hd
def enM (E:List En):List (Spot × Value):=E.map fun e=>(e.sp,e.v)
def enF (E:List En):List SP:=E.map fun e=>rHs e.v e.hs
theorem J4 {s:Spot}:∀ {E:List En},(E.map En.sp).Nodup→zi s (enM E)=enM (E.filter fun e=>decide (e.sp≠s))
 | [], _ => rfl
 | e :: E, h => by
  rw [ant,ao6] at h;rw [enM,ant,zi,aor];by_cases hs:e.sp=s
  ·rw [if_pos hs,ans (fun hc=>hc hs)];have:(E.filter fun e=>decide (e.sp≠s))=E:=aom.2 fun x hx=>ani fun hc=>h.1 (anb.2 ⟨x,hx,by rw [hc,hs]⟩)
   rw [this];rfl
  ·rw [if_neg hs,ani hs];simp only [aq6,enM,ant];exact am7 _ (J4 h.2)
theorem Q8 {E:List En} {b:World} {F:List SP} {k:Nat} (hk:nth F k=some (all (enF E))) {e:En} (he:e∈E):∀ w,Sat b F w→SL w 34 e.v e.hs.length (wx e.hs):=fun w hS=>by
 obtain ⟨l1,l2,rfl⟩:=ao3 he;obtain ⟨h1,hl,hA⟩:=hS.mem.get hk;have hp:(enF (l1++e::l2)).Perm (rHs e.v e.hs::enF (l1++l2)):=by
  rw [enF,enF,anu,ant,anu];exact an2
 have h2:Sat b (rHs e.v e.hs::enF (l1++l2)) w:=⟨hS.os,hS.tape,hS.output,(je hp _ hA).mono hl⟩;exact (h2.oat (k:=0) Z).sl
theorem E7:∀ x y:List UInt8,Op.bytesLess x y=decide (Lib.compareBytes x y<0)
 | [], [] => rfl
 | [], _ :: _ => rfl
 | _ :: _, [] => rfl
 | a :: x, c :: y => by
  have ih:=E7 x y;simp only [Op.bytesLess,Lib.compareBytes,ih,aqs];by_cases h1:a.toNat<c.toNat
  ·simp [h1]
  ·by_cases h2:c.toNat<a.toNat
   ·have:a≠c:=fun h=>by rw [h] at h2;omega
    simp [h1,h2,this]
   ·have:a=c:=UInt8.toNat_inj.1 (by omega);simp [this]
def scN (a c:ByteArray):Int:=if cbN a c<0 then -1 else if cbN c a<0 then 1 else 0
theorem Q9 {a c:ByteArray}:scN a c<0↔cbN a c<0:=by
 have:=wk a c;unfold scN
 split
 ·constructor <;> omega
 ·split <;> constructor <;> omega
theorem E8 {a c:ByteArray}:scN a c=0↔a=c:=by
 have:=wk a c;unfold scN
 constructor
 ·intro h
  split at h
  ·cases h
  ·split at h
   ·cases h
   ·exact Aw (by omega)
 ·rintro rfl;rw [lp];rfl
def spN (a c:Spot):Int:=if scN a.repo c.repo=0 then scN a.tag c.tag else scN a.repo c.repo
theorem kS {a c:Spot}:spN a c<0↔cbN a.repo c.repo<0∨(a.repo=c.repo∧cbN a.tag c.tag<0):=by
 unfold spN;by_cases h:scN a.repo c.repo=0
 ·rw [if_pos h,Q9];have h1:=E8.1 h;rw [h1,lp];exact ⟨fun h=> .inr ⟨rfl,h⟩,fun h=>h.elim (fun h=>by omega) (·.2)⟩
 ·rw [if_neg h,Q9];exact ⟨.inl,fun h1=>h1.elim id fun h2=>absurd (E8.2 h2.1) h⟩
theorem Xk {a c:ByteArray} (h:¬ cbN c a<0):cbN a c<0∨a=c:=by
 have:=wk a c;by_cases h0:cbN a c=0
 ·exact .inr (Aw h0)
 ·left;omega
theorem Ig {a c:Spot} (h:¬ spN c a<0):spN a c<0∨(a.repo=c.repo∧a.tag=c.tag):=by
 rw [kS] at h ⊢;rcases Xk (a:=a.repo) (c:=c.repo) (fun hc=>h (.inl hc)) with h1 | h1
 ·exact .inl (.inl h1)
 ·rcases Xk (a:=a.tag) (c:=c.tag) (fun hc=>h (.inr ⟨h1.symm,hc⟩)) with h2 | h2
  ·exact .inl (.inr ⟨h1,h2⟩)
  ·exact .inr ⟨h1,h2⟩
theorem vC {a c:Spot} (h:spN a c<0):¬ spN c a<0:=by
 rw [kS] at *;rintro (h2 | ⟨h2,h3⟩)
 ·rcases h with h | ⟨h,h4⟩
  ·have:=wk a.repo c.repo;omega
  ·rw [h,lp] at h2;omega
 ·rcases h with h | ⟨h,h4⟩
  ·rw [h2,lp] at h;omega
  ·have:=wk a.tag c.tag;omega
theorem Z9 {a c d:Spot} (h1:¬ spN c a<0) (h2:¬ spN d c<0):¬ spN d a<0:=by
 have key:∀ {a c d:Spot},spN a c<0→spN c d<0→spN a d<0:=fun {a c d} h1 h2=>by
  rw [kS] at *;rcases h1 with h1 | ⟨h1,h3⟩
  ·rcases h2 with h2 | ⟨h2,_⟩
   ·exact .inl (qj h1 h2)
   ·exact .inl (h2▸h1)
  ·rcases h2 with h2 | ⟨h2,h4⟩
   ·exact .inl (h1▸h2)
   ·exact .inr ⟨h1.trans h2,qj h3 h4⟩
 have self:¬ spN a a<0:=fun h=>vC h h
 rcases Ig h1 with h3 | ⟨h3,h4⟩
 ·rcases Ig h2 with h5 | ⟨h5,h6⟩
  ·exact vC (key h3 h5)
  ·have h7:=vC h3;rw [kS] at h7 ⊢;rw [← h5,← h6];exact h7
 ·rw [kS] at h2 ⊢;rw [h3,h4];exact h2
section
variable {b:World} {F:List SP} {gm:Nat} {E0:List En}
theorem Ra {s:Spot} {A:Option Addr} {n c:Nat}:SC Tryz.prog wq [spV s,.slice A n c] b F (fun u F'=>u = .bool (decide ((n:Int)=0))∧F'=F):=by
 refine aw Tryz.func64 Z Z Z <| akw <| bx Z Z Z Z Z fun g1=>ae Z <| aan <| am5 Z Z Z <| ae Z <| akv <| ai <| ar Z Z (af 1 [] Z) ?_
 exact ⟨rfl,rfl⟩
theorem Xl {s:ByteArray}:SC Tryz.prog jY [.string s] b F (fun u F'=>u = .bool false∧F'=F):=by
 refine aw Tryz.func161 Z Z Z <| akw <| ae Z <| aan <| am5 Z Z Z <| ae Z <| akv <| ai <| ar Z Z ax ?_;exact ⟨am7 Value.bool (by simp),rfl⟩
theorem vD {a c:ByteArray}:SC Tryz.prog eR [.string a,.string c] b F (fun u F'=>u=ii (scN a c)∧F'=F):=by
 refine aw Tryz.func70 Z Z Z <| akw <| ae Z <| aan <| ae Z <| bg Z Z Z (Xl) <| ae Z <| aan <| ae Z <| bg Z Z Z (Xl) <| ae Z <| akv <| ad <| akw <| ae Z <| akv <| aj Z <| ak <| ab <| ad <| akw <| ae Z <| akv <| aj Z <| ak <| ab <| ad <| akw <| am5 Z Z Z <| akv ?_;by_cases h1:cbN a c<0
 ·refine ik 16 (.bool true) Z (am7 Value.bool (by rw [E7];exact ani h1)) ?_;refine ao Z <| akw <| ae Z <| akv <| ai <| ag <| ar Z Z ax ?_;exact ⟨by rw [scN,if_pos h1];rfl,rfl⟩
 refine ik 16 (.bool false) Z (am7 Value.bool (by rw [E7];exact ans h1)) ?_;refine aj Z <| ak <| ab <| ad <| akw <| am5 Z Z Z <| akv ?_;by_cases h2:cbN c a<0
 ·refine ik 19 (.bool true) Z (am7 Value.bool (by rw [E7];exact ani h2)) ?_;refine ao Z <| akw <| ae Z <| akv <| ai <| ag <| ar Z Z ax ?_;exact ⟨by rw [scN,if_neg h1,if_pos h2];rfl,rfl⟩
 refine ik 19 (.bool false) Z (am7 Value.bool (by rw [E7];exact ans h2)) ?_;refine aj Z <| ak <| ab <| akw <| ae Z <| akv <| ai <| ar Z Z ax ?_;exact ⟨by rw [scN,if_neg h1,if_neg h2];rfl,rfl⟩
theorem Rb {x y:Spot}:SC Tryz.prog ws [spV x,spV y] b F (fun u F'=>u=ii (spN x y)∧F'=F):=by
 refine aw Tryz.func68 Z Z Z <| akw <| bx Z Z Z Z Z fun g2=>bx Z Z Z Z Z fun g3=>ae Z <| akv <| ad <| cn flo (pt g3 dw (spC y)::pt g2 dw (spC x)::F) (by decide +kernel) ax <| ay Z Zl <| cl 1 Z Z Z Z <| ay Z Zl <| cl 0 Z Z Z Z <| dh Z Z Z Z (vD) ax <| ay Z Zl <| cl 1 Z Z Z Z <| ay Z Zl <| cl 0 Z Z Z Z <| dh Z Z Z Z (vD) ax ?_
 skip
 refine yZ [_,_] Z Z Z Z Z Z Z Z Z Z (af 2 [0,1] Z) fun g4=>dh Z Z Z Z (Qi) ((af 3 [1,2] Z)) <| ay Z Zl <| aq <| ab <| ai <| ar Z Z (af 3 [] Z) ?_
 exact ⟨rfl,rfl⟩
theorem aaa (h0:(E0.map En.sp).Nodup) (hok:∀ e∈E0,bY e.sp) :
  SC Tryz.prog jg [.map (some gm),.func (.func wq) ⟨[]⟩ ⟨[]⟩] b (mp gm spV bY (enM E0)::all (enF E0)::F) (fun _ F'=>∃ E,E.Sublist E0∧(∀ e,e∈E↔e∈E0∧e.hs≠ [])∧F'=mp gm spV bY (enM E)::all (enF E0)::F):=by
 have hinj:∀ {x y:En},x∈E0→y∈E0→x.sp=y.sp→x=y:=kR h0;refine aw Tryz.func63 Z Z Z <| akw <| ae Z <| Cc 0 Z Z Z Z Z (fun _=>rfl) Z fun gi=>akv <| am ?_
 refine dt (S:=List En × List En × Option (Spot × Value)) (fun _=> [(0,.map (some gm)),(1,.func (.func wq) ⟨[]⟩ ⟨[]⟩),(7,pp gi)])
  (fun s=>mr gm gi spV bY (enM s.1) (enM s.2.1) s.2.2::all (enF E0)::F) (fun s=>s.1.Sublist E0∧s.2.1.Sublist E0∧∀ e,e∈s.1↔e∈E0∧(e∈s.2.1∨e.hs≠ [])) (fun s=>s.2.1.length) (E0,E0,none) ax ⟨List.Sublist.refl _,List.Sublist.refl _,fun e=>⟨fun h=>⟨h,.inl h⟩,fun h=>h.1⟩⟩ ?_
 rintro ⟨E,R,c⟩ ⟨i1,i2,i3⟩;dsimp only at i1 i2 i3 ⊢;refine akw ?_;refine It 0 Z Z Z Z (fun _ _ _=>rfl) Z (fun hR=> ?_) (fun R1 y R2 hR=> ?_)
 ·have hS:R = []:=by
   cases R with
   | nil => rfl
   | cons _ _ => simp [enM] at hR
  subst hS;refine ae Z <| akv <| ad <| aj Z <| bz <| au <| av <| ap <| jb Z .nil (Nh 0 Z Z) ?_;exact ⟨E,i1,fun e=>by rw [i3];simp,rfl⟩
 ·obtain ⟨S1,S3,rfl,rfl,h3⟩:=List.map_eq_append_iff.1 hR;obtain ⟨x,S2,rfl,rfl,rfl⟩:=List.map_eq_cons_iff.1 h3;have hx0:x∈E0:=i2.subset (by simp);have hsub:(S1++S2).Sublist E0:=List.Sublist.trans (List.Sublist.append (List.Sublist.refl _) (List.sublist_cons_self _ _)) i2;have hxS:x∉S1++S2:=fun hc=>by
   have h4:((S1++x::S2).map En.sp).Nodup:=(i2.map En.sp).nodup h0;have h5:=(an2 (l₁:=S1) (a:=x) (l₂:=S2)).map En.sp;rw [h5.nodup_iff,ant,ao6] at h4;exact h4.1 (anb.2 ⟨x,hc,rfl⟩)
  have hmem:∀ e,e∈S1++x::S2↔e=x∨e∈S1++S2:=fun e=>by
   simp only [anr,anj]
   constructor
   ·rintro (h | h | h)
    ·exact .inr (.inl h)
    ·exact .inl h
    ·exact .inr (.inr h)
   ·rintro (h | h | h)
    ·exact .inr (.inl h)
    ·exact .inl h
    ·exact .inr (.inr h)
  refine b9 (fun w H=>cp (Q8 (k:=1) Z hx0 w H)) ?_;rintro ⟨A,cx,hxv,_⟩;refine ae Z <| akv <| ad <| ao Z <| ak <| ab <| am <| akw <| Cd 0 Z Z Z Z Z <| am4 Z Z <| db Z Z Z Z Z fun g4=>eu 0 Z Z Z Z <| ae Z <| aan <| ae Z <| bt 0 Z Z Z <| ae Z <| bm 15 (.slice A x.hs.length cx) Z hxv <| bg Z Z Z (Ra (s:=x.sp)) ?_
  by_cases hh:x.hs = []
  ·have hl0:x.hs.length=0:=by rw [hh];rfl
   refine wz 16 Z <| akv <| ao Z <| aa <| ae Z <| bt 0 Z Z Z <| Vc 1 vB (hok x hx0) Z Z Z Z Z Z Z ?_;dsimp only;rw [J4 ((i1.map En.sp).nodup h0)];refine ac <| bh ?_;refine ly (E.filter fun e=>decide (e.sp≠x.sp),S1++S2,none) ?_ ⟨arg.trans i1,hsub,fun e=> ?_⟩ (by simp)
   ·dsimp only;rw [show enM (S1++S2)=List.map (fun e=>(e.sp,e.v)) S1++List.map (fun e=>(e.sp,e.v)) S2 from anu];exact af 3 [1,2] Z
   ·dsimp only;rw [anx,i3,hmem,aoy]
    constructor
    ·rintro ⟨⟨h1,h2⟩,h3⟩;refine ⟨h1,?_⟩;rcases h2 with (rfl | h2) | h2
     ·exact absurd Z h3
     ·exact .inl h2
     ·exact .inr h2
    ·rintro ⟨h1,h2⟩;refine ⟨⟨h1,h2.imp .inr id⟩,fun hc=> ?_⟩;have:e=x:=hinj h1 hx0 hc;subst this;rcases h2 with h2 | h2
     ·exact hxS h2
     ·exact h2 hh
  ·have hl0:x.hs.length≠0:=fun hc=>hh (aol.1 hc)
   refine px 16 Z <| akv <| aj Z <| ak <| bh ?_;refine ly (E,S1++S2,some (x.sp,x.v)) ?_ ⟨i1,hsub,fun e=> ?_⟩ (by simp)
   ·dsimp only;rw [show enM (S1++S2)=List.map (fun e=>(e.sp,e.v)) S1++List.map (fun e=>(e.sp,e.v)) S2 from anu];exact af 3 [1,2] Z
   ·dsimp only;rw [i3,hmem]
    constructor
    ·rintro ⟨h1,(rfl | h2) | h2⟩
     ·exact ⟨h1,.inr hh⟩
     ·exact ⟨h1,.inl h2⟩
     ·exact ⟨h1,.inr h2⟩
    ·rintro ⟨h1,h2⟩;exact ⟨h1,h2.imp .inr id⟩
end

def ylS (l:List Spot):List (List Value):=l.map fun s=> [spV s]
theorem E9 (l:List Spot) (s:Spot):ylS l ++ [[spV s]]=ylS (l ++ [s]):=by simp [ylS]
theorem Vd {a c:Spot} (h:spV a=spV c):a=c:=by
 simp only [spV,spC,Value.agg.injEq,Array.mk.injEq,apf,Value.string.injEq,Value.bool.injEq,aq7] at h;cases a;cases c;simp only [Spot.mk.injEq];exact h
theorem Bk:∀ {l m:List Spot},ylS l=ylS m→l=m
 | [], [], _ => rfl
 | [], _ :: _, h => by simp [ylS] at h
 | _ :: _, [], h => by simp [ylS] at h
 | a :: l, c :: m, h => by
  rw [ylS,ylS,ant,ant,apf] at h;rw [Vd (List.cons.inj h.1).1,Bk h.2]
abbrev rSp (v:Value) (l:List Spot):SP:=row dw 3 v l.length (flC spC l)
def okS (xs:List (List Value)) (vs:List Value):Prop:=∃ (l:List Spot) (s:Spot),xs=ylS l∧vs = [spV s]∧l.length<1000000
section
variable {b:World} {F:List SP} {gm gmb:Nat} {E:List En}
theorem aab:SC Tryz.prog jo [.map (some gm)] b F (fun u F'=>∃ gmb,u = .func (.func dq) ⟨[]⟩ ⟨[pp gmb]⟩∧F'=pt gmb ee [.map (some gm)]::F):=by
 refine aw Tryz.func67 Z Z Z <| akw <| bx Z Z Z Z Z fun gs=>ae Z <| aan <| am4 Z Z <| akv <| ai <| ar Z Z ax ?_
 exact ⟨gs,rfl,rfl⟩
theorem Ve {m:Nat} {J:List (List Value)→SP} (hY:sC Tryz.prog m b okS J) (hn:E.length≤100000) :
  SC Tryz.prog dq [.func (.yield m) ⟨[]⟩ ⟨[]⟩,pp gmb] b (J []::pt gmb ee [.map (some gm)]::mp gm spV bY (enM E)::F) (fun _ F'=>∃ l,l.Perm (E.map En.sp)∧F'=J (ylS l)::pt gmb ee [.map (some gm)]::mp gm spV bY (enM E)::F):=by
 refine aw Tryz.func160 Z Z Z <| akw <| bt 1 Z Z Z <| Cc 2 Z Z Z Z Z (fun _=>rfl) Z fun gi=>akv <| am ?_
 refine dt (S:=List Spot × List En × Option (Spot × Value)) (fun s=> [(0,.func (.yield m) ⟨[]⟩ ⟨[]⟩),(1,pp gmb),(5,pp gi)])
  (fun s=>J (ylS s.1)::pt gmb ee [.map (some gm)]::mr gm gi spV bY (enM E) (enM s.2.1) s.2.2::F) (fun s=>(s.1++s.2.1.map En.sp).Perm (E.map En.sp)) (fun s=>s.2.1.length) ([],E,none) ax (aq0 _) ?_
 rintro ⟨l,S,c⟩ hp;dsimp only at hp ⊢;have hpl:=hp.length_eq;rw [am9,anf,anf] at hpl;refine akw ?_;refine It 2 Z Z Z Z (fun _ _ _=>rfl) Z (fun hR=> ?_) (fun R1 y R2 hR=> ?_)
 ·have hS:S = []:=by
   cases S with
   | nil => rfl
   | cons _ _ => simp [enM] at hR
  subst hS;rw [aqm,anv] at hp;refine ae Z <| akv <| ad <| aj Z <| bz <| au <| av <| ap <| jb Z .nil (Nh 2 Z Z) ?_;exact ⟨l,hp,rfl⟩
 ·obtain ⟨S1,S3,rfl,rfl,h3⟩:=List.map_eq_append_iff.1 hR;obtain ⟨x,S2,rfl,rfl,rfl⟩:=List.map_eq_cons_iff.1 h3;rw [am9,anp] at hpl;refine ae Z <| akv <| ad <| ao Z <| ak <| ab <| am <| akw <| Cd 2 Z Z Z Z Z <| ae Z <| db Z Z Z Z Z fun g4=>eu 0 Z Z Z Z <| aan <| ae Z <| bt 0 Z Z Z ?_
  refine Nl 1 hY Z Z Z Z ⟨l,x.sp,rfl,rfl,by omega⟩ Z ?_;refine ae Z <| akv <| aj Z <| ak <| bh ?_;rw [E9];refine ly (l ++ [x.sp],S1++S2,some (x.sp,x.v)) ?_ ?_ ?_
  ·dsimp only;rw [show enM (S1++S2)=List.map (fun e=>(e.sp,e.v)) S1++List.map (fun e=>(e.sp,e.v)) S2 from anu];exact af 4 [1,2,3] Z
  ·dsimp only;refine List.Perm.trans ?_ hp;rw [anh];refine List.Perm.append_left l ?_;simp only [anu,ant,List.singleton_append];exact an2.symm
  ·dsimp only;simp only [am9,anp];omega
theorem akg {gf:Nat} {caps:List Value} [Bodied Tryz.prog gf] {T:List Spot→List SP→Prop}
  (hg:∀ m J,sC Tryz.prog m b okS J→SC Tryz.prog gf (.func (.yield m) ⟨[]⟩ ⟨[]⟩::caps) b (J []::F) (fun _ F'=>∃ l F2,F'=J (ylS l)::F2∧T l F2)) :
  SC Tryz.prog nl [.slice none 0 0,.func (.func gf) ⟨[]⟩ ⟨caps⟩] b F (fun u F'=>∃ l F2,T l F2∧F'=rSp u l::F2):=by
 refine Sl Tryz.func239 Z Z Z <| akw <| bx Z Z Z Z Z fun g2=>ae Z <| akv <| ad <| akw <| ae Z <| akv <| am ?_
 refine zF Z okS (fun xs=> [exP (fun l:Value × List Spot=>xs=ylS l.2) fun l=> [pt g2 wu [l.1],rSp l.1 l.2]]) F (fun xs F2=>∃ l,xs=ylS l∧T l F2) ?_ Z ?_ ?_ ?_ ?_
 ·exact ((df dw 3 Z).trans (af 2 [1,0] Z)).trans (j6 (p:=fun l:Value × List Spot=>([]:List (List Value))=ylS l.2) (G:=fun l=> [pt g2 wu [l.1],rSp l.1 l.2]) (.slice none 0 0,[]) Z)
 ·rintro xs vs ⟨l,e,_,rfl,_⟩;rfl
 ·rintro m2 D xs vs F0 Rr ⟨l,x,rfl,rfl,hl⟩ hR;refine yj (af 3 [2,0,1] Z) <| Ya fun q hq=> ?_;obtain ⟨sv,l2⟩:=q;dsimp only at hq ⊢;obtain rfl:=Bk hq;refine yj (af 4 [2,0,1,3] Z) <| aa <| db Z Z Z Z Z fun g5=>eu 0 Z Z Z Z <| ac ?_
  skip
  refine rl (af 5 [1,2,3,4,0] Z) <| Yc <| am <| aa <| bt 1 Z Z Z <| bt 4 Z Z Z <| lr Z Z Z Z Z Z Z Z (by decide) fun gl=> ?_;refine ef 3 Z Z Z Z Z Z Z Z Z (m:=1) (news:=spC x) (fun w H=>(H.blk (k:=0) Z).sl Z (by decide)) (fun u hu=>by
   simp only [spC,anj,apb,or_false] at hu;rcases hu with rfl | rfl | rfl <;> rfl) (by omega) (fun _=>rfl) fun v8=> ?_
  refine b9 (fun w H=>(H.oat (k:=3) Z).form) ?_;rintro ⟨A9,c9,rfl,_,_,_⟩;refine eu 2 Z Z Z Z <| ac <| bh <| rl (af 6 [1,2,3,4] Z) <| Ck fun w H=>hR w <| H.ent ?_
  have e9:row dw 3 (.slice A9 (l.length+1) c9) (l.length+1) (flC spC l++spC x)=rSp (.slice A9 (l.length+1) c9) (l ++ [x]):=by
   have:flC spC l++spC x=flC spC (l ++ [x]):=by rw [fu];simp [flC]
   rw [rSp,this,am9];rfl
  rw [e9];exact (af 4 [1,2,0,3] Z).trans ((j6 (p:=fun q:Value × List Spot=>ylS l ++ [[spV x]]=ylS q.2) (G:=fun q=> [pt g2 wu [q.1],rSp q.1 q.2]) (.slice A9 (l.length+1) c9,l ++ [x]) (by dsimp only;rw [E9])).trans (af 3 [1,2,0] Z))
 ·intro m2 J2 hY2;refine (hg m2 J2 hY2).mono ?_;rintro _ _ ⟨l,F2,rfl,hT⟩;exact ⟨_,_,rfl,l,rfl,hT⟩
 ·rintro D xs F2 ⟨l,rfl,hT⟩;refine rl (af 2 [1,0] Z) <| Yb fun q hq=> ?_;obtain ⟨sv,l2⟩:=q;dsimp only at hq ⊢;obtain rfl:=Bk hq;refine Ry (fun w H=>(H.oat (k:=1) Z).form) ?_;rintro ⟨A9,c9,rfl,_,_,_⟩;refine bh <| ab <| akw <| bt 0 Z Z Z <| ae Z <| akv <| ai <| Sm Z (k:=2) Z Z (.tmp Z .nil) (af 3 [1] Z) ?_;exact ⟨l,F2,hT,rfl⟩
theorem Rc (hn:E.length≤12):SC Tryz.prog uy [.func (.func dq) ⟨[]⟩ ⟨[pp gmb]⟩,.func (.func ws) ⟨[]⟩ ⟨[]⟩] b (pt gmb ee [.map (some gm)]::mp gm spV bY (enM E)::F) (fun u F'=>∃ M,M.Perm (E.map En.sp)∧(M.Pairwise fun a c=>¬ spN c a<0)∧F'=rSp u M::pt gmb ee [.map (some gm)]::mp gm spV bY (enM E)::F):=by
 have hc:SC Tryz.prog xw [.func (.func dq) ⟨[]⟩ ⟨[pp gmb]⟩] b (pt gmb ee [.map (some gm)]::mp gm spV bY (enM E)::F) (fun u F'=>∃ l,l.Perm (E.map En.sp)∧F'=rSp u l::pt gmb ee [.map (some gm)]::mp gm spV bY (enM E)::F):=by
  refine aw Tryz.func158 Z Z Z <| akw <| ae Z <| aan <| ae Z ?_;refine bf rfl rfl rfl (akg (T:=fun l F2=>l.Perm (E.map En.sp)∧F2=pt gmb ee [.map (some gm)]::mp gm spV bY (enM E)::F) (fun m J hY=>(Ve hY (by omega)).mono (by rintro _ _ ⟨l,h1,rfl⟩;exact ⟨l,_,rfl,h1,rfl⟩))) ?_;rintro u _ ⟨l,_,⟨hl,rfl⟩,rfl⟩;refine ae Z <| akv <| ai <| ar Z Z ax ?_;exact ⟨l,hl,rfl⟩
 refine aw Tryz.func66 Z Z Z <| akw <| ae Z <| aan <| ae Z <| bf Z Z Z (hc) ?_;rintro u _ ⟨l,hl,rfl⟩;have hll:=hl.length_eq;rw [anf] at hll;refine b9 (fun w H=>(H.oat (k:=0) Z).form) ?_;rintro ⟨A,c,rfl,_⟩;refine ae Z <| aan <| am4 Z Z ?_;refine bf Z Z Z (aj2 (A:=A) (c:=c) (D:=l) (cm:=spN) (f:=ws) (fun x _ y _ B=>Rb) (fun _ _=>rfl) (fun d _ u hu=>by
  simp only [spC,anj,apb,or_false] at hu;rcases hu with rfl | rfl | rfl <;> rfl) (fun x _ y _ z _=>Z9) (fun x _ y _=>vC) Z (by omega)) ?_
 rintro _ _ ⟨M,m1,m2,rfl⟩;refine aan <| am4 Z Z <| akv <| ai <| ar Z Z ax <| ⟨M,m1.trans hl,m2,?_⟩;rw [rSp,m1.length_eq];rfl
end

theorem nG {α β:Type} {f:α→β}:∀ {m:List β} {l:List α},m.Perm (l.map f)→∃ l':List α,l'.Perm l∧l'.map f=m
 | [], l, h => ⟨[], by
   have:=h.length_eq;rw [ao1,anf] at this;rw [aol.1 this.symm],rfl⟩
 | c :: m, l, h => by
  obtain ⟨a,ha,rfl⟩:=anb.1 (h.subset anl);obtain ⟨l1,l2,rfl⟩:=ao3 ha;have h2:(f a::m).Perm (f a::(l1++l2).map f):=by
   refine h.trans ?_;rw [anu,ant,anu];exact an2
  obtain ⟨l',h3,h4⟩:=nG h2.cons_inv;exact ⟨a::l',(h3.cons a).trans an2.symm,by rw [ant,h4]⟩
theorem Rd {α:Type} {l m:List α} (h:l.Sublist m):∃ B,m.Perm (B++l):=by
 induction h with
 | slnil => exact ⟨[], .refl _⟩
 | cons a _ ih =>
  obtain ⟨B,h⟩:=ih;exact ⟨a::B,h.cons a⟩
 | cons_cons a _ ih =>
  obtain ⟨B,h⟩:=ih;exact ⟨B,(h.cons a).trans an2.symm⟩
theorem vE {A B C F:List SP} (h:A.Perm (B++C)):Ent (all A::F) (all C::F):=(qd h).trans (qr B)
def nH (x:Ev):Option Spot:=if x.kind=3 then some ⟨x.repo,x.tag,false⟩ else if x.kind=1 then some ⟨x.repo,⟨#[]⟩,true⟩ else none
def bZ (s:Spot):Pl:=⟨s.repo,if s.push then none else some s.tag⟩
theorem Vf {x:Ev} {p:Pl}:zy x p↔∃ s,nH x=some s∧bZ s=p:=by
 unfold zy nH
 constructor
 ·rintro (⟨k,rfl⟩ | ⟨k,rfl⟩)
  ·exact ⟨_,by rw [if_neg (by omega),if_pos k],rfl⟩
  ·exact ⟨_,by rw [if_pos k],rfl⟩
 ·rintro ⟨s,h,rfl⟩
  split at h
  ·rename_i k;cases h;exact .inr ⟨k,rfl⟩
  ·split at h
   ·rename_i k;cases h;exact .inl ⟨k,rfl⟩
   ·cases h
structure SpV (s:Spot):Prop where
 rs:s.repo.size≤1000
 ts:s.tag.size≤1000
 tg:(s.push=true∧s.tag=⟨#[]⟩)∨(s.push=false∧s.tag≠⟨#[]⟩)
theorem SpV.one {a c:Spot} (ha:SpV a) (hc:SpV c) (h1:a.repo=c.repo) (h2:a.tag=c.tag):a=c:=by
 have h3:a.push=c.push:=by
  rcases ha.tg with ⟨p1,t1⟩ | ⟨p1,t1⟩ <;> rcases hc.tg with ⟨p2,t2⟩ | ⟨p2,t2⟩
  ·rw [p1,p2]
  ·exact absurd (h2.symm.trans t1) t2
  ·exact absurd (h2.trans t2) t1
  ·rw [p1,p2]
 cases a;cases c;simp only at h1 h2 h3;rw [h1,h2,h3]
theorem SpV.pl {a c:Spot} (ha:SpV a) (hc:SpV c) (h:bZ a=bZ c):a=c:=by
 have h1:a.repo=c.repo:=am7 Pl.repo h;have h2:(if a.push then none else some a.tag)=(if c.push then none else some c.tag):=am7 Pl.tag h;refine ha.one hc h1 ?_;rcases ha.tg with ⟨p1,t1⟩ | ⟨p1,t1⟩ <;> rcases hc.tg with ⟨p2,t2⟩ | ⟨p2,t2⟩ <;> rw [p1,p2] at h2
 ·rw [t1,t2]
 ·cases h2
 ·cases h2
 ·exact ao5 h2
theorem Ml {M:List Spot} (hs:M.Pairwise fun a c=>¬ spN c a<0) (hn:M.Nodup) (hv:∀ s∈M,SpV s):M.Pairwise fun a c=>spN a c<0:=by
 rw [aqp] at hn;refine (hs.and hn).imp_of_mem fun {a c} ha hc h=> ?_;rcases Ig h.1 with h1 | ⟨h1,h2⟩
 ·exact h1
 ·exact absurd ((hv a ha).one (hv c hc) h1 h2) h.2
theorem Re (e:En):∀ E:List En,∃ E',sy e.sp e.v (enM E)=enM E'∧(∃ B,(rHs e.v e.hs::enF E).Perm (B++enF E'))∧(∀ x∈E',x=e∨x∈E)∧((E'.map En.sp=E.map En.sp∧e.sp∈E.map En.sp)∨(E'.map En.sp=E.map En.sp ++ [e.sp]∧e.sp∉E.map En.sp))
 | [] => ⟨[e], rfl, ⟨[], .refl _⟩, by simp, .inr ⟨rfl, by simp⟩⟩
 | x :: E => by
  by_cases h:x.sp=e.sp
  ·refine ⟨e::E,?_,⟨[rHs x.v x.hs],.swap _ _ _⟩,fun y hy=> ?_,.inl ⟨by simp [h],by simp [h]⟩⟩
   ·rw [enM,ant,sy,if_pos h];rfl
   ·rcases anj.1 hy with rfl | hy
    ·exact .inl Z
    ·exact .inr (ank _ hy)
  ·obtain ⟨E',h1,⟨B,h2⟩,h3,h4⟩:=Re e E;refine ⟨x::E',?_,⟨B,(List.Perm.swap _ _ _).trans ((h2.cons (rHs x.v x.hs)).trans an2.symm)⟩,fun y hy=> ?_,?_⟩
   ·rw [enM,ant,sy,if_neg h];exact am7 _ h1
   ·rcases anj.1 hy with rfl | hy
    ·exact .inr anl
    ·exact (h3 y hy).imp id (ank _)
   ·rcases h4 with ⟨h4,h5⟩ | ⟨h4,h5⟩
    ·exact .inl ⟨by rw [ant,ant,h4],by rw [ant];exact ank _ h5⟩
    ·refine .inr ⟨by rw [ant,ant,h4];rfl,?_⟩;rw [ant,anj];rintro (hc | hc)
     ·exact h hc.symm
     ·exact h5 hc
structure EnI (l D:List Ev) (E:List En):Prop where
 nd:(E.map En.sp).Nodup
 spot:∀ e∈E,yO (bZ e.sp) l e.hs∧∃ x∈l,nH x=some e.sp
 all:∀ x∈D,∀ s,nH x=some s→∃ e∈E,e.sp=s
 len:E.length≤D.length
theorem EnI.put {l D:List Ev} {E:List En} (h:EnI l D E) {x:Ev} (hx:x∈l) {s:Spot} (hs:nH x=some s) {hs':List Hd} (hr:yO (bZ s) l hs') (u:Value):∃ E',sy s u (enM E)=enM E'∧(∃ B,(rHs u hs'::enF E).Perm (B++enF E'))∧EnI l (D ++ [x]) E':=by
 obtain ⟨E',h1,h2,h3,h4⟩:=Re ⟨s,u,hs'⟩ E;have hmap:∀ t,t∈E'.map En.sp↔t=s∨t∈E.map En.sp:=fun t=>by
  rcases h4 with ⟨h4,h5⟩ | ⟨h4,h5⟩
  ·rw [h4];exact ⟨.inr,fun h=>h.elim (fun h=>h▸h5) id⟩
  ·rw [h4];simp only [anr,anc];exact ⟨Or.symm,Or.symm⟩
 refine ⟨E',h1,h2,?_,fun e he=> ?_,fun y hy t ht=> ?_,?_⟩
 ·rcases h4 with ⟨h4,h5⟩ | ⟨h4,h5⟩
  ·rw [h4];exact h.nd
  ·rw [h4,ap8];exact ⟨h.nd,by simp,fun a ha c hc hac=>h5 (by rw [anc.1 hc] at hac;rw [← hac];exact ha)⟩
 ·rcases h3 e he with rfl | he
  ·exact ⟨hr,x,hx,hs⟩
  ·exact h.spot e he
 ·have key:t∈E'.map En.sp:=by
   rw [hmap];rcases anr.1 hy with hy | hy
   ·obtain ⟨e,he,rfl⟩:=h.all y hy t ht;exact .inr (anb.2 ⟨e,he,rfl⟩)
   ·rw [anc.1 hy,hs] at ht;exact .inl (ao5 ht).symm
  obtain ⟨e,he,h5⟩:=anb.1 key;exact ⟨e,he,h5⟩
 ·have:=h.len;have e1:E'.length=(E'.map En.sp).length:=(anf En.sp).symm;rw [e1,am9,aqa];rcases h4 with ⟨h4,_⟩ | ⟨h4,_⟩
  ·rw [h4,anf];omega
  ·rw [h4,am9,anf,aqa];omega
theorem EnI.skip {l D:List Ev} {E:List En} (h:EnI l D E) {x:Ev} (hs:nH x=none):EnI l (D ++ [x]) E:=by
 refine ⟨h.nd,h.spot,fun y hy t ht=> ?_,by have:=h.len;rw [am9];omega⟩;rcases anr.1 hy with hy | hy
 ·exact h.all y hy t ht
 ·rw [anc.1 hy,hs] at ht;cases ht
theorem EnI.held {l:List Ev} {E0 E:List En} (h:EnI l l E0) (he:∀ e,e∈E↔e∈E0∧e.hs≠ []) {p:Pl} {x:Hd}:qk l p x↔∃ e∈E,bZ e.sp=p∧x∈e.hs:=by
 constructor
 ·intro hh;obtain ⟨y,hy,ha,hrest⟩:=id hh;obtain ⟨s,h1,h2⟩:=Vf.1 ha;obtain ⟨e,he0,rfl⟩:=h.all y hy s h1;have hx:x∈e.hs:=by rw [(h.spot e he0).1.mem,h2];exact hh
  exact ⟨e,(he e).2 ⟨he0,fun hc=>by rw [hc] at hx;cases hx⟩,h2,hx⟩
 ·rintro ⟨e,h1,rfl,h2⟩;exact ((h.spot e ((he e).1 h1).1).1.mem x).1 h2
structure RF (D:List En) (r:Rp):Prop where
 rw:RW r
 th:∀ g∈r.ts,g.hs≠ []
 tg:∀ g∈r.ts,∃ x∈D,x.sp.repo=r.nm∧x.sp.tag=g.nm
 tl:r.ts.length≤D.length
structure PI (D:List En) (rs:List Rp):Prop where
 w:RSw (rs.map Rp.pl)
 at_:∀ p h,h∈atP p (rs.map Rp.pl)↔∃ x∈D,bZ x.sp=p∧h∈x.hs
 rf:∀ r∈rs,RF D r∧(r.ts≠ []∨r.ms≠ [])∧∃ x∈D,x.sp.repo=r.nm
 n:rs.length≤D.length
structure PO (D:List En) (y:En) (l1:List Rp) (r:Rp):Prop where
 w:RSw ((l1 ++ [r]).map Rp.pl)
 at_:∀ p h,h∈atP p ((l1 ++ [r]).map Rp.pl)↔∃ x∈D,bZ x.sp=p∧h∈x.hs
 nm:r.nm=y.sp.repo
 old:∀ r∈l1,RF D r∧(r.ts≠ []∨r.ms≠ [])∧∃ x∈D,x.sp.repo=r.nm
 rf:RF D r
 n:l1.length≤D.length
structure YI (D:List En) (y:En):Prop where
 v:SpV y.sp
 dv:∀ x∈D,SpV x.sp
 lt:∀ x∈D,spN x.sp y.sp<0
 ne:y.hs≠ []
 rise:nk y.hs
 ok:∀ h∈y.hs,bX h
 n:y.hs.length≤1000
 dn:D.length≤100
theorem RF.up {D:List En} {r:Rp} (h:RF D r) (y:En):RF (D ++ [y]) r :=
 ⟨h.rw,h.th,fun g hg=>by obtain ⟨x,hx,h1⟩:=h.tg g hg;exact ⟨x,an5 _ hx,h1⟩,by have:=h.tl;rw [am9];omega⟩
theorem YI.ne_pl {D:List En} {y:En} (h:YI D y) {x:En} (hx:x∈D):bZ x.sp≠bZ y.sp:=fun hc=>by
 have h1:=(h.dv x hx).pl h.v hc;have h2:=h.lt x hx;rw [h1] at h2;exact vC h2 h2
theorem PI.last {D:List En} {y:En} {l1:List Rp} {r:Rp} (h:PI D (l1 ++ [r])) (hn:r.nm=y.sp.repo):PO D y l1 r :=
 ⟨h.w,h.at_,hn,fun q hq=>h.rf q (an5 _ hq),(h.rf r (by simp)).1,by have:=h.n;rw [am9,aqa] at this;omega⟩
theorem PI.new {D:List En} {y:En} {rs:List Rp} (h:PI D rs) (hy:YI D y) (hn:∀ l1 r,rs=l1 ++ [r]→r.nm≠y.sp.repo):PO D y rs (rp0 y.sp.repo):=by
 have hle:∀ r∈rs,cbN r.nm y.sp.repo<0∨r.nm=y.sp.repo:=fun r hr=>by
  obtain ⟨_,_,x,hx,h1⟩:=h.rf r hr;rw [← h1];rcases kS.1 (hy.lt x hx) with h2 | h2
  ·exact .inl h2
  ·exact .inr h2.1
 have hlt:∀ x∈rs.map Rp.pl,cbN x.nm y.sp.repo<0:=fun x hx=>by
  obtain ⟨r,hr,rfl⟩:=anb.1 hx;rcases hle r hr with h1 | h1
  ·exact h1
  ·exfalso;rcases ap2 rs with rfl | ⟨l1,q,hq⟩
   ·cases hr
   ·rw [ap0] at hq;subst hq;have hqn:=hn l1 q Z;rcases anr.1 hr with hr | hr
    ·have h2:=h.w.rs;rw [anu] at h2;have h3:cbN r.nm q.nm<0:=(aof.1 h2).2.2 r.pl (anb.2 ⟨r,hr,rfl⟩) q.pl (by simp);rcases hle q (by simp) with h4 | h4
     ·have h5:=qj h3 h4;rw [h1,lp] at h5;omega
     ·exact hqn h4
    ·rw [anc.1 hr] at h1;exact hqn h1
 obtain ⟨h1,h2⟩:=Er (A:=rs.map Rp.pl) (B:= []) (s:=y.sp.repo) (by rw [anv];exact h.w) hlt (fun x hx=>by cases hx);have hm:(rs ++ [rp0 y.sp.repo]).map Rp.pl=rs.map Rp.pl++⟨y.sp.repo,[],[]⟩ :: []:=by rw [anu];rfl
 refine ⟨by rw [hm];exact h1,fun p q=>by rw [hm,h2,anv];exact h.at_ p q,rfl,h.rf,⟨Xg _ hy.v.rs,fun g hg=>(by cases hg),fun g hg=>(by cases hg),anq _⟩,h.n⟩
theorem Vg {D:List En} {y:En} {p:Pl} {q:Hd}:(∃ x∈D ++ [y],bZ x.sp=p∧q∈x.hs)↔(∃ x∈D,bZ x.sp=p∧q∈x.hs)∨(bZ y.sp=p∧q∈y.hs):=by
 constructor
 ·rintro ⟨x,hx,h⟩;rcases anr.1 hx with hx | hx
  ·exact .inl ⟨x,hx,h⟩
  ·rw [anc.1 hx] at h;exact .inr h
 ·rintro (⟨x,hx,h⟩ | h)
  ·exact ⟨x,an5 _ hx,h⟩
  ·exact ⟨y,by simp,h⟩
theorem YI.upd {D:List En} {y:En} (hy:YI D y) {p:Pl} {q:Hd} {L:List Hd} (h:q∈L↔∃ x∈D,bZ x.sp=p∧q∈x.hs):(q∈if p=bZ y.sp then y.hs else L)↔∃ x∈D ++ [y],bZ x.sp=p∧q∈x.hs:=by
 rw [Vg]
 split
 ·rename_i hp
  subst hp;exact ⟨fun h=> .inr ⟨rfl,h⟩,fun h=>h.elim (fun ⟨x,hx,h1,_⟩=>absurd h1 (hy.ne_pl hx)) (·.2)⟩
 ·rename_i hp
  rw [h];exact ⟨.inl,fun h=>h.elim id fun h=>absurd h.1.symm hp⟩
theorem Rf {D:List En} {y:En} {l1:List Rp} (h:∀ r∈l1,RF D r∧(r.ts≠ []∨r.ms≠ [])∧∃ x∈D,x.sp.repo=r.nm):∀ r∈l1,RF (D ++ [y]) r∧(r.ts≠ []∨r.ms≠ [])∧∃ x∈D ++ [y],x.sp.repo=r.nm:=fun r hr=>by
 obtain ⟨h1,h2,x,hx,h3⟩:=h r hr;exact ⟨h1.up y,h2,x,an5 _ hx,h3⟩
theorem PO.push {D:List En} {y:En} {l1:List Rp} {r:Rp} (h:PO D y l1 r) (hy:YI D y) (hp:y.sp.push=true):PI (D ++ [y]) (l1 ++ [⟨r.nm,r.tv,r.ts,y.v,y.hs⟩]):=by
 have hw:=h.w;have hat:=h.at_;rw [kf,aqm] at hw hat;obtain ⟨h1,h2⟩:=Qg (m:=y.hs) hw hy.rise;have hm:(l1 ++ [(⟨r.nm,r.tv,r.ts,y.v,y.hs⟩:Rp)]).map Rp.pl=l1.map Rp.pl++⟨r.pl.nm,r.pl.ts,y.hs⟩ :: []:=by rw [kf];rfl
 have hpl:bZ y.sp=⟨r.pl.nm,none⟩:=by
  unfold bZ;rw [hp];show (⟨_,_⟩:Pl)=⟨r.nm,none⟩;rw [h.nm];rfl
 have hr:=h.rf;refine ⟨by rw [hm];exact h1,fun p q=>by rw [hm,h2,← hpl];exact hy.upd (hat p q),fun x hx=> ?_,by have:=h.n;simp only [am9,aqa];omega⟩;rcases anr.1 hx with hx | hx
 ·exact Rf h.old x hx
 ·rw [anc.1 hx];have h3:=hr.up y;exact ⟨⟨⟨hr.rw.tn,hy.n,hr.rw.gn,hy.ok,hr.rw.gh,hr.rw.ns,hr.rw.gs⟩,h3.th,h3.tg,h3.tl⟩,.inr hy.ne,y,by simp,h.nm.symm⟩
theorem PO.tag {D:List En} {y:En} {l1:List Rp} {r:Rp} (h:PO D y l1 r) (hy:YI D y) (hp:y.sp.push=false) (v:Value):PI (D ++ [y]) (l1 ++ [⟨r.nm,v,r.ts ++ [⟨y.sp.tag,y.v,y.hs⟩],r.mv,r.ms⟩]):=by
 have hw:=h.w;have hat:=h.at_;rw [kf,aqm] at hw hat;have hr:=h.rf;obtain ⟨h1,h2⟩:=Jt (A2:=r.ts.map Tg.pl) (B2:= []) (s:=y.sp.tag) hw (by rw [anv];rfl) (fun x hx=>by
  obtain ⟨g,hg,rfl⟩:=anb.1 hx;obtain ⟨e,he,h3,h4⟩:=hr.tg g hg;show cbN g.nm _<0;rw [← h4];rcases kS.1 (hy.lt e he) with h5 | h5
  ·rw [h3,h.nm,lp] at h5;omega
  ·exact h5.2) (fun x hx=>by cases hx)
 obtain ⟨h3,h4⟩:=W7 (A2:=r.ts.map Tg.pl) (g:=⟨y.sp.tag,[]⟩) (B2:= []) (m:=y.hs) h1 Z hy.rise;have hm:(l1 ++ [(⟨r.nm,v,r.ts ++ [⟨y.sp.tag,y.v,y.hs⟩],r.mv,r.ms⟩:Rp)]).map Rp.pl=l1.map Rp.pl++⟨r.pl.nm,r.ts.map Tg.pl++⟨y.sp.tag,y.hs⟩ :: [],r.pl.ms⟩ :: []:=by
  rw [kf,aqm];unfold Rp.pl;dsimp only;rw [anu];rfl
 have hpl:bZ y.sp=⟨r.pl.nm,some y.sp.tag⟩:=by
  unfold bZ;rw [hp];show (⟨_,_⟩:Pl)=⟨r.nm,some _⟩;rw [h.nm];rfl
 have hmem:∀ g∈r.ts ++ [(⟨y.sp.tag,y.v,y.hs⟩:Tg)],g∈r.ts∨g=⟨y.sp.tag,y.v,y.hs⟩:=fun g hg=>by
  rcases anr.1 hg with hg | hg
  ·exact .inl hg
  ·exact .inr (anc.1 hg)
 have htl:=hr.tl;have hdn:=hy.dn;refine ⟨by rw [hm];exact h3,fun p q=>by
  rw [hm,h4];dsimp only;rw [← hpl,h2];exact hy.upd (hat p q),fun x hx=> ?_,by have:=h.n;simp only [am9,aqa];omega⟩
 rcases anr.1 hx with hx | hx
 ·exact Rf h.old x hx
 ·rw [anc.1 hx];have h3:=hr.up y;have hlen:(r.ts ++ [(⟨y.sp.tag,y.v,y.hs⟩:Tg)]).length=r.ts.length+1:=by simp
  refine ⟨⟨⟨by dsimp only;omega,hr.rw.mn,fun g hg=> ?_,hr.rw.mh,fun g hg=> ?_,hr.rw.ns,fun g hg=> ?_⟩,fun g hg=> ?_,fun g hg=> ?_,by dsimp only;rw [hlen,am9,aqa];omega⟩,.inl (by simp),y,by simp,h.nm.symm⟩
  ·rcases hmem g hg with hg | rfl
   ·exact hr.rw.gn g hg
   ·exact hy.n
  ·rcases hmem g hg with hg | rfl
   ·exact hr.rw.gh g hg
   ·exact hy.ok
  ·rcases hmem g hg with hg | rfl
   ·exact hr.rw.gs g hg
   ·exact hy.v.ts
  ·rcases hmem g hg with hg | rfl
   ·exact hr.th g hg
   ·exact hy.ne
  ·rcases hmem g hg with hg | rfl
   ·exact h3.tg g hg
   ·exact ⟨y,by simp,h.nm.symm,rfl⟩
theorem PI.ok {D:List En} {rs:List Rp} (h:PI D rs):ve (rs.map Rp.pl):=by
 refine ⟨h.w.rs,fun x hx=> ?_⟩;have hk:=h.w.ok x hx;obtain ⟨r,hr,rfl⟩:=anb.1 hx;obtain ⟨h1,h2,_⟩:=h.rf r hr;refine ⟨hk.ts,fun g hg=>⟨?_,hk.th g hg⟩,hk.ms,h2.imp (fun h hc=>h (List.map_eq_nil_iff.1 hc)) id⟩;obtain ⟨g',hg',rfl⟩:=anb.1 hg;exact h1.th g' hg'
theorem PI.start:PI [] []:=⟨⟨List.Pairwise.nil,fun r hr=>(by cases hr)⟩,fun p q=>by simp [atP],fun r hr=>(by cases hr),aoc _⟩

theorem Mm:po (fe ⟨#[]⟩)≠(0,0):=by decide +kernel
theorem Rg {n:Nat} {l:List Ev} (hG:ir n l) (hz:∀ e∈l,e.repo.size≤1000∧e.tag.size≤1000) {x:Ev} (hx:x∈l) {s:Spot} (hs:nH x=some s):SpV s:=by
 unfold nH at hs
 split at hs
 ·rename_i k
  cases hs;exact ⟨(hz x hx).1,(hz x hx).2,.inr ⟨rfl,fun hc=>Mm (by
   have:=hG.tag x hx (.inl k);dsimp only at hc;rw [hc] at this;exact this)⟩⟩
 ·split at hs
  ·cases hs;exact ⟨(hz x hx).1,anq _,.inl ⟨rfl,rfl⟩⟩
  ·cases hs
theorem J5 {e:En}:∀ {E:List En},(E.map En.sp).Nodup→e∈E→md e.sp (enM E)=some e.v
 | [], _, h => by cases h
 | x :: E, hn, h => by
  rw [ant,ao6] at hn;rw [enM,ant,md];by_cases hx:x.sp=e.sp
  ·rw [if_pos hx];rcases anj.1 h with rfl | h
   ·rfl
   ·exact absurd (anb.2 ⟨e,h,hx.symm⟩) hn.1
  ·rw [if_neg hx];rcases anj.1 h with rfl | h
   ·exact absurd Z hx
   ·exact J5 hn.2 h
abbrev bdP (g10:Nat) (vv:Value) (A:Option Addr) (c:Nat) (rs:List Rp) (X:List SP):List SP:=row bi 3 (.slice A rs.length c) rs.length (oq rs)::all (rpF rs)::pt g10 bj [vv,.slice A rs.length c]::X
section
variable {b:World} {F:List SP} {l:List Ev} {n:Nat}
theorem yO.ok {p:Pl} {hs:List Hd} (h:yO p l hs) (hw:∀ e∈l,EW e):∀ x∈hs,bX x:=fun x hx=>by
 obtain ⟨e,he,_,rfl,_⟩:=(h.mem x).1 hx;exact Ie (hw e he)
theorem Fa {v:Value} (hG:ir n l) (hl:∀ w,Sat b F w→EL w v l) (hw:∀ e∈l,EW e) (hz:∀ e∈l,e.repo.size≤1000∧e.tag.size≤1000) (hn:l.length≤12):SC Tryz.prog vN [v,ii n] b F (fun u F'=>∃ t:Tb,u = .tuple ⟨[tbV t,ii 0]⟩∧TI n l t.pl∧t.V=r9 n l∧TW t∧F'=tbP t++F):=by
 have hn1:=hG.n1;have hn2:=hG.n2;have h32:∀ e∈l,e.id.length=32:=fun e he=>(hw e he).l32
 have hfit:∀ e∈l,1≤e.r∧e.r≤n∧1≤e.n∧e.n≤1048576∧e.deps.length=n:=fun e he=>by
  obtain ⟨a1,a2,a3,a4,a5,_⟩:=vi (hG.fit e he);exact ⟨a1,a2,a3,a4,a5⟩
 refine aw Tryz.func18 Z Z Z <| bu (fun w H=>cp (hl w H).sl) ?_;rintro ⟨A,c,rfl,_,_,_,h4,_⟩;refine bu (p:=∀ e∈l,∀ u∈evC e,u.oneCell'=true) (fun w H e he=>by
  have h1:=vg ((hl w H).er e he);exact kp h1.1 h1.2) fun hone=> ?_
 refine akw <| db Z Z Z Z Z fun g4=>ae Z <| akv <| ad <| akw <| am4 Z Z ?_
 refine bf Z Z Z (E6 (z:=n) (by unfold I64;omega) (fun w H=>hl w (H.ent (af 1 [] Z))) hw (fun e he=>by have:=(hfit e he).2.2.2.2;omega) (by omega)) ?_;rintro _ _ ⟨r,rfl,hr,rfl⟩;have hr0:r=0:=hr.2 ⟨n,rfl,by omega,hG⟩;subst hr0;refine ae Z <| aan <| am4 Z Z <| akv <| aj Z <| ak <| ab <| akw <| yo spV bY Z Z Z fun g7=>ae Z <| akv <| ad <| akw <| am5 Z Z Z <| akv <| am ?_
 refine dt (S:=Nat × List En) (fun s=> [(0,.slice A l.length c),(1,ii n),(4,pp g4),(5,ii 0),(7,.map (some g7)),(23,.slice A l.length c),(24,ii l.length),(25,ii s.1)]) (fun s=>mp g7 spV bY (enM s.2)::all (enF s.2)::pt g4 bj [.slice none 0 0,.slice none 0 0]::F) (fun s=>s.1≤l.length∧EnI l (l.take s.1) s.2) (fun s=>l.length - s.1) (0,[]) ((eg (G:= [])).trans (af 3 [1,0,2] Z)) ⟨anq _,⟨ard,fun e he=>(by cases he),fun x hx=>(by cases hx),aoc _⟩⟩ ?_;rintro ⟨i,E⟩ ⟨hi,i1⟩;dsimp only at hi i1 ⊢;refine akw <| ae Z <| akv <| ad ?_;refine de Z (fun h3=> ?_) (fun h3=> ?_)
 ·have h3':i<l.length:=by omega
  obtain ⟨gg,oo,rfl⟩:=h4 (by omega);have hm:=ana h3';have hc:∀ w,Sat b F w→∀ j,j<39→w.cell? ⟨gg,oo+i*39+j,none⟩=(evC l[i])[j]?:=fun w H j hj=>fb (hl w H).sl (fun e he=>di (h32 e he)) h3' hj
  have hsn:l.take (i+1)=l.take i ++ [l[i]]:=ang h3';have hxw:=hw _ hm;have hxz:=hz _ hm;have x1:=hone _ hm;generalize l[i]=x at *;have xl:=di hxw.l32;have hmax:(1000:Nat)≤maxLen:=by decide
  refine ak <| ab <| ad <| am <| akw <| az Z ?_;refine fc Z (fun w H=>cg (cs:=evC x) Z Z Z xl (fun j hj=>by rw [bq,am6];exact hc w (H.ent (af 3 [] Z)) j (by rw [xl] at hj;exact hj))) Z ?_;refine db Z Z Z Z Z fun g9=> ?_;refine fh 0 Z Z Z Z Z Z Z xl x1 (by rw [xl];rfl) ?_;refine aan <| ae Z <| bt 0 Z Z Z <| akv <| am <| akw <| am4 Z Z <| akv ?_;refine de Z (fun k3=> ?_) (fun k3=> ?_)
  ·have hs:nH x=some ⟨x.repo,x.tag,false⟩:=by unfold nH;rw [if_pos k3]
   skip
   refine cn flo (pt g9 ba (evC x)::F) (by decide +kernel) (af 4 [0] Z) <| ay Z Zl <| ay Z Zl <| cl 0 Z Z Z Z <| ay Z Zl <| cl 0 Z Z Z Z <| ay Z Zl <| ay Z Zl <| ay Z Zl <| cl 0 Z Z Z Z <| ay Z Zl <| cl 0 Z Z Z Z <| d9 Z Z Z Z (If (repo:=x.repo) (tag:=x.tag) (fun w H=>hl w (H.ent (af 4 [] Z))) h32 hn) ?_;rintro u _ ⟨hs',hr',rfl⟩;refine ⟨af 5 [1] rfl,?_⟩;obtain ⟨E',p1,⟨B,p2⟩,p3⟩:=i1.put hm hs hr' u;refine rU 2 (a:=⟨x.repo,x.tag,false⟩) vB ⟨by dsimp only;omega,by dsimp only;omega⟩ Z Z Z Z Z Z Z Z Z (af 5 [1] Z) ?_;rw [p1];refine aq <| bh <| bh <| ab <| aa <| az Z <| ae Z <| ac ?_;rw [show (i:Int)+1=((i+1:Nat):Int) by omega];refine cw (i+1,E') ?_ ⟨by dsimp only;omega,by dsimp only;rw [hsn];exact p3⟩;exact (af 5 [0,3,2,4] Z).trans ((ny (A:=rHs u hs'::enF E) (B:= [rHs u hs']) (.refl _)).trans ((vE p2).trans (af 3 [1,0,2] Z)))
  ·refine akw <| am4 Z Z <| akv ?_;refine de Z (fun k1=> ?_) (fun k1=> ?_)
   ·have hs:nH x=some ⟨x.repo,⟨#[]⟩,true⟩:=by unfold nH;rw [if_neg k3,if_pos k1]
    skip
    refine cn flo (pt g9 ba (evC x)::F) (by decide +kernel) (af 4 [0] Z) <| ay Z Zl <| ay Z Zl <| cl 0 Z Z Z Z <| ay Z Zl <| ay Z Zl <| ay Z Zl <| cl 0 Z Z Z Z <| d9 Z Z Z Z (E5 (repo:=x.repo) (fun w H=>hl w (H.ent (af 4 [] Z))) h32 hn) ?_;rintro u _ ⟨hs',hr',rfl⟩;refine ⟨af 5 [1] rfl,?_⟩;obtain ⟨E',p1,⟨B,p2⟩,p3⟩:=i1.put hm hs hr' u;refine rU 2 (a:=⟨x.repo,⟨#[]⟩,true⟩) vB ⟨by dsimp only;omega,anq _⟩ Z Z Z Z Z Z Z Z Z (af 5 [1] Z) ?_;rw [p1];refine aq <| bh <| bh <| ab <| aa <| az Z <| ae Z <| ac ?_;rw [show (i:Int)+1=((i+1:Nat):Int) by omega];refine cw (i+1,E') ?_ ⟨by dsimp only;omega,by dsimp only;rw [hsn];exact p3⟩;exact (af 5 [0,3,2,4] Z).trans ((ny (A:=rHs u hs'::enF E) (B:= [rHs u hs']) (.refl _)).trans ((vE p2).trans (af 3 [1,0,2] Z)))
   ·have hs:nH x=none:=by unfold nH;rw [if_neg k3,if_neg k1]
    refine ak <| bh <| bh <| ab <| aa <| az Z <| ae Z <| ac ?_;rw [show (i:Int)+1=((i+1:Nat):Int) by omega];refine cw (i+1,E) (af 4 [1,2,3] Z) ⟨by dsimp only;omega,by dsimp only;rw [hsn];exact i1.skip hs⟩
 obtain rfl:i=l.length:=by omega
 rw [an7] at i1;refine bz <| au <| av <| ap <| ab <| akw <| ae Z ?_;have hok:∀ e∈E,bY e.sp:=fun e he=>by
  obtain ⟨_,x,hx,hs⟩:=i1.spot e he;have:=Rg hG hz hx hs;have hmax:(1000:Nat)≤maxLen:=by decide
  exact ⟨aoz this.rs hmax,aoz this.ts hmax⟩
 refine bf Z Z Z (aaa i1.nd hok) ?_;rintro _ _ ⟨E1,e1,e2,rfl⟩;refine aan <| am4 Z Z <| bf Z Z Z (Mk hn1 hn2 (fun w H=>hl w (H.ent (af 3 [] Z))) h32 (fun e he=>⟨(hfit e he).1,(hfit e he).2.1⟩) (by omega)) ?_;rintro vv _ rfl;refine b9 (fun w H=>(H.oat (k:=0) Z).form) ?_;rintro ⟨Av,cv,rfl,_⟩;refine ae Z <| db Z Z Z Z Z fun g10=>eu 0 Z Z Z Z <| akv <| ad <| akw <| ae Z <| bf Z Z Z (aab) ?_
 rintro _ _ ⟨gmb,rfl,rfl⟩;have hlen1:E1.length≤12:=by have:=e1.length_le;have:=i1.len;omega
 refine bf Z Z Z ((Rc (F:=pt g10 bj [.slice Av (r9 n l).length cv,.slice none 0 0]::rZ (.slice Av (r9 n l).length cv) (r9 n l)::all (enF E)::pt g4 bj [.slice none 0 0,.slice none 0 0]::F) hlen1).ent (af 6 [0,3,1,2,4,5] Z)) ?_;rintro vM _ ⟨M,m1,m2,rfl⟩;refine b9 (fun w H=>(H.oat (k:=0) Z).form) ?_;rintro ⟨AM,cM,rfl,_,_,qM⟩;refine b9 (p:=∀ e∈E,∃ A c,e.v = .slice A e.hs.length c) (fun w H e he=>by
  obtain ⟨A,c,h,_⟩:=cp (Q8 (k:=5) Z he w H);exact ⟨A,c,h⟩) fun hvv=> ?_
 obtain ⟨EM,p1,rfl⟩:=nG m1;have hnd1:(E1.map En.sp).Nodup:=(e1.map En.sp).nodup i1.nd;have hmem:∀ e,e∈EM↔e∈E∧e.hs≠ []:=fun e=>by rw [p1.mem_iff];exact e2 e
 have hv:∀ e∈EM,SpV e.sp:=fun e he=>by
  obtain ⟨_,x,hx,hs⟩:=i1.spot e ((hmem e).1 he).1;exact Rg hG hz hx hs
 have hst:=Ml m2 ((p1.map En.sp).nodup_iff.2 hnd1) (fun s hs=>by
  obtain ⟨e,he,rfl⟩:=anb.1 hs;exact hv e he)
 rw [ap7] at hst;have hEl:EM.length≤12:=by rw [p1.length_eq];exact hlen1
 generalize hvn:r9 n l=V at *;rw [anf] at *;obtain ⟨B,hB⟩:=Rd e1;have hBE:(enF E).Perm (enF B++enF EM):=by
  refine (hB.map _).trans ?_;rw [anu];exact List.Perm.append_left _ (p1.symm.map _)
 refine am4 Z Z <| akv <| am ?_;refine dt (S:=Nat × List Rp × Option Addr × Nat) (fun s=> [(4,pp g4),(5,ii 0),(7,.map (some g7)),(10,pp g10),(64,.slice AM EM.length cM),(65,ii EM.length),(66,ii s.1)])
  (fun s=>bdP g10 (.slice Av V.length cv) s.2.2.1 s.2.2.2 s.2.1 (all (enF (EM.drop s.1))::row dw 3 (.slice AM EM.length cM) EM.length (flC spC (EM.map En.sp))::mp g7 spV bY (enM E1)::rZ (.slice Av V.length cv) V::pt g4 bj [.slice none 0 0,.slice none 0 0]::F)) (fun s=>s.1≤EM.length∧PI (EM.take s.1) s.2.1) (fun s=>EM.length - s.1) (0,[],none,0) ?_ ⟨anq _,PI.start⟩ ?_
 ·show Ent (row dw 3 (.slice AM EM.length cM) (EM.map En.sp).length (flC spC (EM.map En.sp))::_) _;rw [anf];exact (af 7 [5,3,0,2,4,6] Z).trans ((vE hBE).trans ((eg (G:= [])).trans ((df bi 3 Z).trans (af 8 [0,1,3,2,4,5,6,7] Z))))
 rintro ⟨i,rs,A2,c2⟩ ⟨hi2,i2⟩;dsimp only at hi2 i2 ⊢;have hrn:rs.length≤12:=by have:=i2.n;rw [anm] at this;omega
 refine akw <| ae Z <| akv <| ad ?_;refine de Z (fun h5=> ?_) (fun h5=> ?_)
 ·have h5':i<EM.length:=by omega
  obtain ⟨gM,oM,rfl⟩:=qM (by omega);have hsn:EM.take (i+1)=EM.take i ++ [EM[i]]:=ang h5';have hdn:EM.drop i=EM[i]::EM.drop (i+1):=an8 h5';have fx:=pa (f:=spC) (sz:=3) (l:=EM.map En.sp) (fun _ _=>rfl) (i:=i) (by rw [anf];exact h5');rw [aox] at fx;have hym:=ana h5';have hyE:=((hmem _).1 hym);obtain ⟨hyr,_⟩:=i1.spot _ hyE.1;obtain ⟨A5,c5,hyv⟩:=hvv _ hyE.1;have hget:=J5 hnd1 (p1.mem_iff.1 hym);have hspk:=hok _ hyE.1;have hY:YI (EM.take i) EM[i]:=by
   refine ⟨hv _ hym,fun x hx=>hv x (aon hx),fun x hx=> ?_,hyE.2,hyr.rise hG.nd,hyr.ok hw,by have:=hyr.len;omega,by rw [anm];omega⟩;have h6:=hst;rw [← an9 i EM,hdn] at h6;exact (aof.1 h6).2.2 x hx _ anl
  generalize EM[i]=y at *;have hDn:(EM.take i).length=i:=by rw [anm];omega
  refine ak <| ab <| ad <| am <| akw <| az Z ?_;refine vw 4 (i*3) Z Z Z Z Z Z Z (by rw [bq,am6]) (by omega) fx Z ?_;refine db Z Z Z Z Z fun g12=>eu 0 Z Z Z Z <| akv ?_
  refine rN (S:=List Rp × Rp × Nat × Nat × Nat) (fun s=> [(4,pp g4),(5,ii 0),(7,.map (some g7)),(10,pp g10),(12,pp g12),(64,.slice (some ⟨gM,oM,none⟩) EM.length cM),(65,ii EM.length),(66,ii i)])
   (fun s=>pt g12 dw (spC y.sp)::bdP g10 (.slice Av V.length cv) (some ⟨s.2.2.1,s.2.2.2.1,none⟩) s.2.2.2.2 (s.1 ++ [s.2.1]) (all (enF (EM.drop i))::row dw 3 (.slice (some ⟨gM,oM,none⟩) EM.length cM) EM.length (flC spC (EM.map En.sp))::mp g7 spV bY (enM E1)::rZ (.slice Av V.length cv) V::pt g4 bj [.slice none 0 0,.slice none 0 0]::F)) (fun s=>PO (EM.take i) y s.1 s.2.1) ?_ ?_
  ·have hsl:oq rs++rpC (rp0 y.sp.repo)=oq (rs ++ [rp0 y.sp.repo]):=by
    show flC rpC _++_=flC rpC _;rw [fu];simp [flC]
   have hlr:(rs ++ [rp0 y.sp.repo]).length=rs.length+1:=by simp
   have hre:∀ {X:List SP},Ent (all (rpF rs)::X) (all (rpF (rs ++ [rp0 y.sp.repo]))::X):=fun {X}=>by
    have:=Jz (s:=y.sp.repo) (l1:=rs) (l2:= []) (F:=X);rwa [anv] at this
   have hro:∀ u∈rpC (rp0 y.sp.repo),u.oneCell'=true:=fun u hu=>by
    simp only [rpC,rp0,anj,apb,or_false] at hu;rcases hu with rfl | rfl | rfl <;> rfl
   rcases ap2 rs with rfl | ⟨l1,r,hrs⟩
   ·refine akw <| ae Z <| bt 3 Z Z Z <| ae Z <| az Z <| ae Z <| akv <| ad <| cn flo _ (by decide +kernel) ax ?_
    (iterate 13 refine ay Z Zl ?_)
    refine yn 76 Z (by decide) ?_
    skip
    refine aq <| ab <| ao Z <| aa <| ae Z <| bt 3 Z Z Z <| ae Z <| bt 0 Z Z Z <| ae Z <| lr Z Z Z Z Z Z Z Z (by decide) fun gl=>ef 2 Z Z Z Z Z Z Z Z Z (m:=1) (news:=rpC (rp0 y.sp.repo)) (fun w H=>(H.blk (k:=0) Z).sl Z (by decide)) hro (by omega) (fun _=>rfl) fun v8=>b9 (fun w H=>(H.oat (k:=2) Z).form) ?_
    rintro ⟨A9,c9,rfl,hnc,_,q9⟩;obtain ⟨gA,oA,rfl⟩:=q9 (by omega);refine ae Z <| eu 4 Z Z Z Z <| ac ?_;rw [hsl,← hlr];exact eK ([],rp0 y.sp.repo,gA,oA,c9) ((af 5 [3,1,2,4] Z).trans (hre.trans (af 4 [1,2,0,3] Z))) (i2.new hY fun l1 r h=>by simp at h)
   ·rw [ap0] at hrs;have hll:rs.length=l1.length+1:=by rw [hrs];simp
    have hix:((rs.length:Int) - 1).toNat=l1.length:=by omega
    refine bu (fun w H=>(H.oat (k:=1) Z).form) ?_;rintro ⟨_,_,hvA,hnc,_,q3⟩;cases hvA;obtain ⟨gA,oA,rfl⟩:=q3 (by omega);refine akw <| ae Z <| bt 3 Z Z Z <| ae Z <| az Z <| ae Z <| akv <| ad <| cn flo _ (by decide +kernel) ax <| ay Z Zl <| ay Z Zl <| ay Z Zl <| vr 76 Z (by omega) <| ay Z Zl <| cl 3 Z Z Z Z <| ay Z Zl <| cq Z Z <| ay Z Zl ?_;refine ij Z (fun w H=>br (v:= .string r.nm) Z Z Z (by rw [bq,hix];exact (nB (q:=1) (l1:=l1) (r:=r) (l2:= []) (j:=0) (by rw [← hrs];rfl) (by rw [← hrs]) (by omega) w H).trans Z)) Z Z ?_;refine ay Z Zl <| cl 0 Z Z Z Z <| ay Z Zl <| ay Z Zl ?_;by_cases hnm:r.nm=y.sp.repo
    ·refine cz 86 (.bool false) Z (by
      show Value.bool (!decide _)=_;rw [ani (am7 ByteArray.data hnm)];rfl) ?_
     skip
     refine aq <| ab <| aj Z <| ak ?_;subst hrs;exact eK (l1,r,gA,oA,c2) ax (i2.last hnm)
    ·refine cz 86 (.bool true) Z (by
      show Value.bool (!decide _)=_;rw [ans fun hc=>hnm (ari hc)];rfl) ?_
     skip
     refine aq <| ab <| ao Z <| aa <| ae Z <| bt 3 Z Z Z <| ae Z <| bt 0 Z Z Z <| ae Z <| lr Z Z Z Z Z Z Z Z (by decide) fun gl=>ef 2 Z Z Z Z Z Z Z Z Z (m:=1) (news:=rpC (rp0 y.sp.repo)) (fun w H=>(H.blk (k:=0) Z).sl Z (by decide)) hro (by omega) (fun _=>rfl) fun v8=>b9 (fun w H=>(H.oat (k:=2) Z).form) ?_
     rintro ⟨A9,c9,rfl,hnc,_,q9⟩;obtain ⟨gA,oA,rfl⟩:=q9 (by omega);refine ae Z <| eu 4 Z Z Z Z <| ac ?_;rw [hsl,← hlr];exact eK (rs,rp0 y.sp.repo,gA,oA,c9) ((af 5 [3,1,2,4] Z).trans (hre.trans (af 4 [1,2,0,3] Z))) (i2.new hY fun l2 q h=>by
      obtain ⟨_,h2⟩:=List.append_inj' (hrs.symm.trans h) Z;rw [← (List.cons.inj h2).1];exact hnm)
  ·rintro ⟨l1,r,gA,oA,c3⟩ hPO;dsimp only at hPO ⊢;have hl1:l1.length≤12:=by have:=hPO.n;omega
   have hll:(l1 ++ [r]).length=l1.length+1:=by simp
   have hix:(((l1 ++ [r]).length:Int) - 1).toNat=l1.length:=by omega
   refine yj (G:=rHs y.v y.hs::all (enF (EM.drop (i+1)))::rTs r.tv r.ts::rHs r.mv r.ms::all (tgF r.ts)::all (rpF (l1 ++ []))::pt g12 dw (spC y.sp)::row bi 3 (.slice (some ⟨gA,oA,none⟩) (l1 ++ [r]).length c3) (l1 ++ [r]).length (oq (l1 ++ [r]))::pt g10 bj [.slice Av V.length cv,.slice (some ⟨gA,oA,none⟩) (l1 ++ [r]).length c3]::row dw 3 (.slice (some ⟨gM,oM,none⟩) EM.length cM) EM.length (flC spC (EM.map En.sp))::mp g7 spV bY (enM E1)::rZ (.slice Av V.length cv) V::pt g4 bj [.slice none 0 0,.slice none 0 0]::F) ?_ ?_
   ·rw [hdn];exact (af 5 [2,0,1,3,4] Z).trans ((qd dJ).trans ((sk (G:=rpP r)).trans ((af 8 [7,0,1,2,3,4,5,6] Z).trans (qd (A:=enF (y::EM.drop (i+1))) (B:= [rHs y.v y.hs]) (.refl _)))))
   obtain ⟨rnm,rtv,rts,rmv,rms⟩:=r;dsimp only at *;refine bu (fun w H=>cp ((H.oat (k:=2) Z).sl)) ?_;rintro ⟨A3,c6,htv,_⟩;refine akw <| ae Z <| bt 8 Z Z Z <| ae Z <| bt 8 Z Z Z <| ae Z <| az Z <| az Z <| ae Z <| aan <| ae Z <| bt 6 Z Z Z <| akv ?_;refine ik 14 (.pointer (some ⟨gA,oA+l1.length*3,none⟩)) Z (by rw [bq,hix]) ?_;rcases hY.v.tg with ⟨hp,_⟩ | ⟨hp,_⟩
   ·refine ik 103 (.bool true) Z (am7 Value.bool hp) <| ao Z <| aa <| am4 Z Z <| bt 6 Z Z Z ?_;refine Np 10 (a:=y.sp) (v:=y.v) vB hspk (by rw [hget];rfl) Z Z Z Z Z Z Z Z ?_;refine bm 107 (.slice A5 y.hs.length c5) Z hyv <| am4 Z Z ?_;refine ym 7 (l1.length*3+2) Z Z Z Z Z Z Z Z (Be y.hs) Z (by rw [apv]) (by rw [z4,hll];simp only [anp,ao1];omega) (fun u hu=>by rw [anc.1 hu];rfl) ?_;refine ac <| bh <| ab <| aa <| az Z <| ae Z <| ac ?_;rw [← hyv];have hll2:(l1 ++ [(⟨rnm,rtv,rts,rmv,rms⟩:Rp)]).length=(l1 ++ [(⟨rnm,rtv,rts,y.v,y.hs⟩:Rp)]).length:=by simp
    rw [hll2,show (i:Int)+1=((i+1:Nat):Int) by omega];refine cw (i+1,l1 ++ [⟨rnm,rtv,rts,y.v,y.hs⟩],some ⟨gA,oA,none⟩,c3) ?_ ⟨by dsimp only;omega,by dsimp only;rw [hsn];exact hPO.push hY hp⟩;exact (af 9 [2,0,4,5,7,8,1] Z).trans ((eg (G:=rpP ⟨rnm,rtv,rts,y.v,y.hs⟩)).trans ((ny dJ).trans (af 4 [1,0,2,3] Z)))
   ·subst htv;refine ik 103 (.bool false) Z (am7 Value.bool hp) <| aj Z <| jc flo 13 (pt g12 dw (spC y.sp)::row bi 3 (.slice (some ⟨gA,oA,none⟩) (l1 ++ [(⟨rnm,.slice A3 rts.length c6,rts,rmv,rms⟩:Rp)]).length c3) (l1 ++ [(⟨rnm,.slice A3 rts.length c6,rts,rmv,rms⟩:Rp)]).length (oq (l1 ++ [⟨rnm,.slice A3 rts.length c6,rts,rmv,rms⟩]))::mp g7 spV bY (enM E1)::F) [] Z (by decide +kernel) (af 13 [6,7,10] Z) <| ay Z Zl <| ay Z Zl <| ay Z Zl <| ay Z Zl <| ij Z (fun w H=>br (v:= .slice A3 rts.length c6) Z Z Z ((nB (q:=1) (l1:=l1) (r:=⟨rnm,.slice A3 rts.length c6,rts,rmv,rms⟩) (l2:= []) (j:=1) Z Z (by omega) w H).trans Z)) Z Z <| ay Z Zl <| cl 0 Z Z Z Z <| ay Z Zl <| cl 0 Z Z Z Z ?_;refine sF 2 (a:=y.sp) (v:=y.v) vB hspk (by rw [hget];rfl) Z Z Z Z Z Z Z Z Z ?_;refine cz 119 (.slice A5 y.hs.length c5) Z hyv <| ay Z Zl ?_;have htl:=hPO.rf.tl;dsimp only at htl;refine gS (cs:=tgC ⟨y.sp.tag,.slice A5 y.hs.length c5,y.hs⟩) Z Z Z Z Z Z Z Z Z (by decide) (af 13 [6,7,10] Z) fun gl=> ?_;refine nU 3 Z Z Z Z Z Z Z Z Z Z (m:=1) (news:=tgC ⟨y.sp.tag,.slice A5 y.hs.length c5,y.hs⟩) (fun w H=>(H.blk (k:=0) Z).sl Z (by decide)) (fun u hu=>by
     simp only [tgC,anj,apb,or_false] at hu;rcases hu with rfl | rfl <;> rfl) (by omega) (fun _=>rfl) (fun _=>af 14 [7,8,11] Z) fun v8=> ?_
    refine aq <| jd Z (dc _) <| ix (fun w H=>(H.oat (k:=3) Z).form) ?_;rintro ⟨A9,c9,rfl,_,_,_⟩;refine ay Z Zl <| ay Z Zl ?_;refine me 8 (l1.length*3+1) Z Z Z Z Z Z Z Z Z (Bc (rts ++ [⟨y.sp.tag,y.v,y.hs⟩])) Z (by rw [apv]) (by rw [z4,hll];simp only [anp,ao1];omega) (fun u hu=>by rw [anc.1 hu];rfl) (dc _) ?_;refine aq <| bh <| ab <| aa <| az Z <| ae Z <| ac ?_;rw [← hyv];have hrl:rts.length+1=(rts ++ [(⟨y.sp.tag,y.v,y.hs⟩:Tg)]).length:=by simp
    have hrc:dE rts++tgC ⟨y.sp.tag,y.v,y.hs⟩=dE (rts ++ [⟨y.sp.tag,y.v,y.hs⟩]):=by
     show flC tgC _++_=flC tgC _;rw [fu];simp [flC]
    rw [hrc,hrl];have hll2:(l1 ++ [(⟨rnm,.slice A3 rts.length c6,rts,rmv,rms⟩:Rp)]).length=(l1 ++ [(⟨rnm,.slice A9 (rts ++ [(⟨y.sp.tag,y.v,y.hs⟩:Tg)]).length c9,rts ++ [⟨y.sp.tag,y.v,y.hs⟩],rmv,rms⟩:Rp)]).length:=by simp
    rw [hll2,show (i:Int)+1=((i+1:Nat):Int) by omega];refine cw (i+1,l1 ++ [⟨rnm,.slice A9 (rts ++ [(⟨y.sp.tag,y.v,y.hs⟩:Tg)]).length c9,rts ++ [⟨y.sp.tag,y.v,y.hs⟩],rmv,rms⟩],some ⟨gA,oA,none⟩,c3) ?_ ⟨by dsimp only;omega,by dsimp only;rw [hsn];exact hPO.tag hY hp _⟩;have htm:∀ {X:List SP},Ent (rHs y.v y.hs::all (tgF rts)::X) (all (tgF (rts ++ [⟨y.sp.tag,y.v,y.hs⟩]))::X):=fun {X}=>by
     have:=ny (F:=X) (Bg (k1:=rts) (k2:= []) (y:=⟨y.sp.tag,y.v,y.hs⟩));rwa [anv] at this
    exact (af 10 [1,5,3,4,6,8,9,2] Z).trans (htm.trans ((af 7 [1,2,0,3,4,5,6] Z).trans ((eg (G:=rpP (⟨rnm,.slice A9 (rts ++ [(⟨y.sp.tag,y.v,y.hs⟩:Tg)]).length c9,rts ++ [(⟨y.sp.tag,y.v,y.hs⟩:Tg)],rmv,rms⟩:Rp))).trans ((ny dJ).trans (af 4 [1,0,2,3] Z)))))
 ·obtain rfl:i=EM.length:=by omega
  rw [an7] at i2;have hTI:TI n l (⟨.slice Av V.length cv,V,.slice A2 rs.length c2,rs⟩:Tb).pl:=by
   subst hvn;refine ⟨i2.ok,nD n l,Us fun e he=>by have:=(hfit e he).2.2;omega,fun p h=>(i2.at_ p h).trans (i1.held hmem).symm,fun e he=>Qe he (hfit e he).1 (hfit e he).2.1 (hfit e he).2.2.1,hG.nd⟩
  have hTW:TW ⟨.slice Av V.length cv,V,.slice A2 rs.length c2,rs⟩:=⟨by show V.length≤16;rw [← hvn,nD];exact hn2,by dsimp only;omega,fun r hr=>(i2.rf r hr).1.rw⟩;have hTK:TK ⟨.slice Av V.length cv,V,.slice A2 rs.length c2,rs⟩:=⟨hTW,hTI.tok hn1 hn2 fun e he=>⟨hG.repo e he,fun k3=>hG.tag e he (.inl k3)⟩⟩;refine bz <| au <| av <| ap <| ab <| ad <| cn flo (row bi 3 (.slice A2 rs.length c2) rs.length (oq rs)::all (rpF rs)::pt g10 bj [.slice Av V.length cv,.slice A2 rs.length c2]::rZ (.slice Av V.length cv) V::F) (by decide +kernel) (af 8 [0,1,2,6] Z) <| cl 2 Z Z Z Z <| cl 2 Z Z Z Z ?_;refine dh (v:=ii 0) Z Z Z Z (nA (t:=⟨.slice Av V.length cv,V,.slice A2 rs.length c2,rs⟩) hTK ?_) (af 8 [0,1,2,6] Z) ?_
  ·exact aI (i:=6) (j:=0) (k:=1) Z Z Z
  skip
  refine nQ 7 Z Z Z Z Z Z Z Z Z Z Z Z (af 8 [0,1,2,6] Z) <| ay Z Zl <| aq <| ab <| ai <| fw Z (.agg 7 Z Z Z Z Z (.tmp Z .nil)) (af 8 [6,0,1] Z) ?_;exact ⟨⟨.slice Av V.length cv,V,.slice A2 rs.length c2,rs⟩,rfl,hTI,rfl,hTW,rfl⟩
end

section
variable {b:World} {F:List SP} {l:List Ev} {e:Ev} {V:List Int} {vv:Value} {g3:Nat}
theorem aac (hv:∀ w,Sat b F w→VL (Value.int .i64) w vv V):SC Tryz.prog jD [evV e,pp g3] b (pt g3 ez [vv]::F) (fun u F'=>u = .bool (!fq V e.r e.n)∧F'=pt g3 ez [vv]::F):=by
 refine aw Tryz.func74 Z Z Z <| akw <| bx Z Z Z Z Z fun g2=>ae Z <| aan <| bt 1 Z Z Z <| ae Z <| bt 0 Z Z Z <| bg Z Z Z (uE (up hv (af 2 [] Z))) <| am4 Z Z <| akv <| ai <| ar Z Z (af 2 [1] Z) ?_
 exact ⟨rfl,rfl⟩
theorem aad {v:Value} (hl:∀ w,Sat b F w→EL w v l) (hv:∀ w,Sat b F w→VL (Value.int .i64) w vv V) (hk:∀ e∈l,EvM e) (hn:l.length≤12):SC Tryz.prog Co [v,vv] b F (fun u F'=>∃ D,(D.map nE).Perm ((l.filter fun e=>fq V e.r e.n).map nE)∧F'=rEs u D::all (evF D)::F):=by
 have h32:∀ e∈l,e.id.length=32:=fun e he=>(hk e he).l32
 refine aw Tryz.func19 Z Z Z <| bu (fun w H=>cp (hl w H).sl) ?_;rintro ⟨A,c,rfl,_⟩;refine bu (p:=∀ e∈l,∀ u∈evC e,u.oneCell'=true) (fun w H e he=>by
  have h1:=vg ((hl w H).er e he);exact kp h1.1 h1.2) fun hone=> ?_
 refine bu (fun w H=>(hv w H).form) ?_;rintro ⟨A2,c2,rfl,_⟩;refine akw <| bx Z Z Z Z Z fun g3=>ae Z <| aan <| ae Z <| bf Z Z Z (Es (l:=l) (fun w H=>(hl w (H.ent (af 1 [] Z))).sl) hone (by omega)) ?_
 rintro vc _ rfl;refine b9 (fun w H=>(H.oat (k:=0) Z).form) ?_;rintro ⟨A1,c1,rfl,_,_,_⟩;refine ae Z <| bf Z Z Z (Xd (D:=l) (A:=A1) (c:=c1) (p:=fun e=> !fq V e.r e.n) (f:=jD) (pre:= []) (post:= [pp g3]) (F:=pt g3 ez [.slice A2 V.length c2]::F) (fun x hx B=>tz an2 (aac (e:=x) (F:=B++F) (fun w H=>hv w (H.ent (qr B))))) (fun e he=>di (h32 e he)) hone (by omega)) ?_;rintro _ _ ⟨rfl,rfl⟩;have hff:(l.filter fun e=> !!fq V e.r e.n)=l.filter fun e=>fq V e.r e.n:=by congr 1;funext e;rw [Bool.not_not]
 rw [hff];have hfm:∀ x∈l.filter (fun e=>fq V e.r e.n),x∈l:=fun x hx=>(anx.1 hx).1
 have hfl:(l.filter fun e=>fq V e.r e.n).length≤l.length:=apc _ _;generalize (l.filter fun e=>fq V e.r e.n)=S at *
 skip
 refine bf Z Z Z (Pi (l:=S) (fun w H=>⟨(H.oat (k:=0) Z).sl,fun e he=>(hl w (H.ent (af 2 [] Z))).er e (hfm e he)⟩) (fun e he=>hk e (hfm e he)) (by omega)) ?_;rintro u _ ⟨D,hD,rfl⟩;refine ae Z <| akv <| ai <| ar Z Z (af 4 [0,1] Z) ?_;exact ⟨D,hD.perm,rfl⟩
def am0 (b:World) (bs:List (List Int)) (id:List Int) (wd:Int) (u:Value):Prop :=
 (u = .tuple ⟨[.slice none 0 0,.bool false]⟩∧∀ xs∈bs,wv (we xs) wd≠id)∨∃ xs∈bs,∃ x,VL (Value.int .u8) b x xs∧lv xs∧wv (we xs) wd=id∧u = .tuple ⟨[x,.bool true]⟩
theorem J6 {v:Value} {bs:List (List Int)} {id:List Int} {wd:Int} {q:Nat} (hid:id.length=32) (hl:LB b v bs) (hF:nth F q=some (Is b)) (hn:∀ xs∈bs,xs.length≤1000000):SC Tryz.prog iH [v,idV id,ii wd] b F (fun u F'=>am0 b bs id wd u∧F'=F):=by
 obtain ⟨A,c,rfl,f1,f2,f3⟩:=hl.get;refine aw Tryz.func8 Z Z Z <| akw <| bx Z Z Z Z Z fun g4=>am4 Z Z <| akv <| ad <| akw <| ae Z <| akv <| am <| dt (S:=Nat) (fun i=> [(0,.slice A bs.length c),(2,ii wd),(4,pp g4),(8,ii i)]) (fun _=>pt g4 t_api_ID (u8s id)::F) (fun i=>i≤bs.length∧∀ k (hk:k<bs.length),k<i→wv (we bs[k]) wd≠id) (fun i=>bs.length - i) 0 ax ⟨anq _,fun k _ h=>absurd h (aqi k)⟩ ?_
 rintro i ⟨hi,hk⟩;refine ad <| akw <| am5 Z Z Z <| ae Z <| akv ?_;refine de Z (fun h1=> ?_) (fun h1=> ?_)
 ·have h1':i<bs.length:=by omega
  obtain ⟨bk,off,u,rfl,g1,g2,g3,g5⟩:=f3 i h1';have hxm:=ana h1';have hxn:=hn _ hxm;have hcl:=mG (we bs[i]) wd (fQ _);refine ak <| ab <| ad <| am <| akw <| am4 Z Z <| az Z ?_;refine fc Z (fun w H=>br Z Z Z (by rw [bq,aop];exact Aq (k:=q+1) hF g1 g2 w H)) Z ?_;refine ae Z <| bg Z Z Z (ai9 (xs:=bs[i]) hxn (Iv g3 (k:=q+1) hF)) <| am5 Z Z Z <| db Z Z Z Z Z fun g9=> ?_;refine fh 0 Z Z Z Z Z Z Z (by rw [dr,hcl];rfl) (ib _) (by rw [dr,hcl];rfl) ?_;refine ae Z <| aan ?_;refine du 0 Z Z Z Z Z Z (dj (by rw [dr,hcl];rfl)) Z ?_
  skip
  refine du 1 Z Z Z Z Z Z (dj (by rw [dr,hid];rfl)) Z ?_;refine nq Z (nT (as00:=wv (we bs[i]) wd) (bs:=id) Z Z hcl hid) Z ?_;by_cases he:wv (we bs[i]) wd=id
  ·refine se 28 Z he <| akv <| ao Z <| akw <| am4 Z Z <| az Z ?_;refine fc Z (fun w H=>br Z Z Z (by rw [bq,aop];exact Aq (k:=q+2) hF g1 g2 w H)) Z ?_;refine am4 Z Z <| akv <| ai <| al <| ag <| cd <| al <| ag <| fz Z Z Z (af 2 [] Z) ?_;exact ⟨.inr ⟨_,hxm,u,g3,g5,he,rfl⟩,rfl⟩
  ·refine sq 28 Z he <| akv <| aj Z <| ak <| bh <| ab <| aa <| ae Z <| az Z <| ae Z <| ac ?_;rw [show (i:Int)+1=((i+1:Nat):Int) by omega];refine cw (i+1) (af 2 [1] Z) ⟨h1',fun k hk' hlt=> ?_⟩;by_cases e:k=i
   ·subst e;exact he
   ·exact hk k hk' (by omega)
 ·refine bz <| au <| av <| ap <| ab <| akw <| am4 Z Z <| akv <| ai <| fz Z Z Z (af 1 [] Z) <| ⟨.inl ⟨rfl,fun xs hx=> ?_⟩,rfl⟩;obtain ⟨k,hk',rfl⟩:=ao0.1 hx;exact hk k hk' (by omega)
end

instance:EqT Tryz.prog t_api_Held:=⟨by kernel_rfl⟩
theorem Rh (k0:Nat) {a:Hd} (h:a.id.length=32) (w:World):(Op.equalIn (k0+1+1+1) t_api_Held (.agg ⟨hdC a⟩) (.agg ⟨hdC a⟩)).run Tryz.prog w = .ok true w:=by
 have hS:Tryz.prog.underlying t_api_Held=some (.struct (Tryz.prog.fieldsOf t_api_Held)):=by kernel_rfl
 have hp:Tryz.prog.stoodInHeld t_api_Held=false:=by kernel_rfl
 have hf : ∃ f g : Field, (Tryz.prog.fieldsOf t_api_Held).toList = [f, g] ∧ f.name ≠ "_" ∧ g.name ≠ "_" ∧ f.type = t_api_Dot ∧ g.type = t_api_ID ∧ f.offset = 0 ∧ g.offset = 2 :=
  ⟨_,_,rfl,by decide,by decide,rfl,rfl,rfl,rfl⟩
 obtain ⟨f,g,h1,h2,h3,h4,h5,h6,h7⟩:=hf;rw [run_equalIn_struct w (k0+1+1) t_api_Held _ _ hS hp,h1];have ud:Tryz.prog.underlying t_api_Dot=some (.struct (Tryz.prog.fieldsOf t_api_Dot)):=by kernel_rfl
 obtain ⟨e,i,ua,_,_,_⟩:=(inferInstance:ArrI Tryz.prog t_api_ID 32 .u8).ex;have sd:(sizeOf t_api_Dot).run Tryz.prog w = .ok 2 w:=TT.run_size (P:=Tryz.prog) (t:=t_api_Dot) Z w;have sa:(sizeOf t_api_ID).run Tryz.prog w = .ok 32 w:=TT.run_size (P:=Tryz.prog) (t:=t_api_ID) Z w;have p0:(part t_api_Dot ⟨hdC a⟩ 0).run Tryz.prog w = .ok (nh a.d.1 a.d.2) w:=by
  simp [part,isAgg,run_underlying ud,sd]
  rfl
 have p1:(part t_api_ID ⟨hdC a⟩ 2).run Tryz.prog w = .ok (idV a.id) w:=by
  simp [part,isAgg,run_underlying ua,sa];simp [hdC,h];exact an1 (by rw [dr];omega)
 have q0:=Ur k0 a.d.1 a.d.2 w;have q1:=amy (P:=Tryz.prog) (t:=t_api_ID) k0 h w;clear hS hp ud ua sd sa;rw [Ej h2 (by rw [h4,h6];exact p0) (by rw [h4,h6];exact p0) (by rw [h4];exact q0),Ej h3 (by rw [h5,h7];exact p1) (by rw [h5,h7];exact p1) (by rw [h5];exact q1)]
 rfl
theorem Vh {a:Hd} (h:a.id.length=32) (w:World):(Op.equalIn 10000 t_api_Held (.agg ⟨hdC a⟩) (.agg ⟨hdC a⟩)).run Tryz.prog w = .ok true w:=by
 rw [show (10000:Nat)=9997+1+1+1 from rfl];exact Rh 9997 h w
section
variable {b:World} {F:List SP}
theorem pV {va vc:Value} {hs:List Hd} (ha:∀ w,Sat b F w→SL w 34 va hs.length (wx hs)) (hc:∀ w,Sat b F w→SL w 34 vc hs.length (wx hs)) (hk:∀ h∈hs,h.id.length=32) (hn:hs.length≤1000):SC Tryz.prog aU [va,vc] b F (fun u F'=>u = .bool true∧F'=F):=by
 have hz:∀ h∈hs,(hdC h).length=34:=fun h hh=>mu (hk h hh)
 refine aw Tryz.func78 Z Z Z <| bu (fun w H=>cp (ha w H)) ?_;rintro ⟨A,c,rfl,_,_,_,k3,_⟩;refine bu (fun w H=>cp (hc w H)) ?_;rintro ⟨B,d,rfl,_,_,_,q3,_⟩;refine akw <| ae Z <| aan ?_
 (iterate 6 refine ae Z ?_)
 refine akv <| ad <| akw <| ae Z <| akv <| am ?_;refine ik 5 (.bool true) Z (by simp) ?_;refine dt (S:=Nat) (fun i=> [(0,.slice A hs.length c),(1,.slice B hs.length d),(5,.bool true),(6,ii i)]) (fun _=>F) (fun i=>i≤hs.length) (fun i=>hs.length - i) 0 ax (anq _) ?_;intro i hi;refine ad <| akw ?_
 (iterate 7 refine ae Z ?_)
 refine akv ?_;refine de Z (fun h1=> ?_) (fun h1=> ?_)
 ·have h1':i<hs.length:=by omega
  obtain ⟨gA,oA,rfl⟩:=k3 (by omega);obtain ⟨gB,oB,rfl⟩:=q3 (by omega);have c1:∀ w,Sat b F w→∀ j,j<34→w.cell? ⟨gA,oA+i*34+j,none⟩=(hdC hs[i])[j]?:=fun w H j hj=>fb (ha w H) hz h1' hj
  have c2:∀ w,Sat b F w→∀ j,j<34→w.cell? ⟨gB,oB+i*34+j,none⟩=(hdC hs[i])[j]?:=fun w H j hj=>fb (hc w H) hz h1' hj
  have hx:=hk _ (ana h1');generalize hs[i]=x at *;have xl:=mu hx;refine ak <| ab <| ad <| am <| cn flo _ (by decide +kernel) ax <| ay Z Zl <| ay Z Zl <| cq Z Z ?_;refine ij Z (fun w H=>cg (cs:=hdC x) Z Z Z xl (fun j hj=>by rw [bq,am6];exact c1 w H j (by rw [xl] at hj;exact hj))) Z Z ?_;refine ay Z Zl <| ay Z Zl <| cq Z Z ?_;refine ij Z (fun w H=>cg (cs:=hdC x) Z Z Z xl (fun j hj=>by rw [bq,am6];exact c2 w H j (by rw [xl] at hj;exact hj))) Z Z ?_;refine dM Z (jM Z Z (Vh hx)) Z Z <| ay Z Zl <| aq <| bh <| ab <| aa <| ae Z <| az Z <| ae Z <| ac ?_;rw [show (i:Int)+1=((i+1:Nat):Int) by omega];exact cw (i+1) ax (show i+1≤_ by omega)
 ·refine bz <| au <| av <| ap <| ab <| akw <| am4 Z Z <| akv <| ai <| ar Z Z ax ?_;exact ⟨rfl,rfl⟩
theorem gK {t t':Tb} (hp:t.pl=t'.pl) (hW:TW t) (hW':TW t') (hT:∀ w,Sat b F w→TR w t) (hT':∀ w,Sat b F w→TR w t'):SC Tryz.prog aS [tbV t,tbV t'] b F (fun u F'=>u = .bool true∧F'=F):=by
 obtain ⟨vv,V,rv,rs⟩:=t;obtain ⟨vv',V',rv',rs'⟩:=t';have hV:V=V':=am7 TB.V hp;have hrs:rs.map Rp.pl=rs'.map Rp.pl:=am7 TB.rs hp;have hlen:rs.length=rs'.length:=by have:=am7 List.length hrs;rwa [anf,anf] at this
 have hrn:rs.length≤1000:=hW.rn;refine aw Tryz.func21 Z Z Z <| bu (fun w H=>cp (hT w H).r) ?_;rintro ⟨A,c,hrv,_,_,_,k3,_⟩;refine bu (fun w H=>cp (hT' w H).r) ?_;rintro ⟨A',c',hrv',_,_,_,k3',_⟩;dsimp only at hrv hrv' k3 k3';subst hrv hrv';refine akw <| bx Z Z Z Z Z fun g2=>bx Z Z Z Z Z fun g3=>ae Z <| akv <| ad <| akw <| ae Z <| bt 1 Z Z Z <| ae Z <| bt 0 Z Z Z <| bg Z Z Z (tT (xs:=V) (ys:=V') (fun w H=>(hT w (H.ent (af 2 [] Z))).v) (fun w H=>(hT' w (H.ent (af 2 [] Z))).v)) <| se 13 Z hV <| am5 Z Z Z <| bt 1 Z Z Z <| am4 Z Z <| bt 0 Z Z Z <| am5 Z Z Z <| akv ?_
 refine ik 23 (.bool false) Z (by
  show Value.bool (!decide _)=_;rw [ani (by omega)];rfl) ?_
 refine aj Z <| ak <| ab <| ad <| akw <| ae Z <| akv <| am <| dt (S:=Nat) (fun i=> [(2,pp g2),(3,pp g3),(5,ii i)]) (fun _=>pt g3 bj [vv',.slice A' rs'.length c']::pt g2 bj [vv,.slice A rs.length c]::F) (fun i=>i≤rs.length) (fun i=>rs.length - i) 0 ax (anq _) ?_;intro i hi;refine ad <| akw <| am4 Z Z <| bt 1 Z Z Z <| am4 Z Z <| akv ?_;refine de Z (fun h1=> ?_) (fun h1=> ?_);rotate_left
 ·refine bz <| au <| av <| ap <| ab <| akw <| ae Z <| akv <| ai <| ar Z Z (af 2 [] Z) ?_;exact ⟨rfl,rfl⟩
 have h1':i<rs.length:=by omega
 have h2':i<rs'.length:=by omega
 obtain ⟨gg,oo,rfl⟩:=k3 (by omega);obtain ⟨gg',oo',rfl⟩:=k3' (by omega);have hpe:rs[i].pl=rs'[i].pl:=by
  have:(rs.map Rp.pl)[i]'(by rw [anf];exact h1')=(rs'.map Rp.pl)[i]'(by rw [anf];exact h2'):=by simp only [hrs]
  rwa [aox,aox] at this
 have hcr:∀ w,Sat b F w→∀ j,j<3→w.cell? ⟨gg,oo+i*3+j,none⟩=(rpC rs[i])[j]?:=fun w H j hj=>fb (f:=rpC) (hT w H).r (fun _ _=>rfl) h1' hj
 have hcr':∀ w,Sat b F w→∀ j,j<3→w.cell? ⟨gg',oo'+i*3+j,none⟩=(rpC rs'[i])[j]?:=fun w H j hj=>fb (f:=rpC) (hT' w H).r (fun _ _=>rfl) h2' hj
 have hrr:∀ w,Sat b F w→RR w rs[i]:=fun w H=>(hT w H).rr _ (ana h1')
 have hrr':∀ w,Sat b F w→RR w rs'[i]:=fun w H=>(hT' w H).rr _ (ana h2')
 have hrw:=hW.rw _ (ana h1');generalize rs[i]=r at *;generalize rs'[i]=r' at *;obtain ⟨nm,tv,ts,mv,ms⟩:=r;obtain ⟨nm',tv',ts',mv',ms'⟩:=r';obtain rfl:nm=nm':=am7 RP.nm hpe;obtain rfl:ms=ms':=am7 RP.ms hpe;have hts:ts.map Tg.pl=ts'.map Tg.pl:=am7 RP.ts hpe;have htl:ts.length=ts'.length:=by have:=am7 List.length hts;rwa [anf,anf] at this
 have htn:ts.length≤1000:=hrw.tn;have hmn:ms.length≤1000:=hrw.mn;refine bu (fun w H=>cp (hrr w (H.ent (af 2 [] Z))).t) ?_;rintro ⟨B,d,htv,_,_,_,q3,_⟩;refine bu (fun w H=>cp (hrr' w (H.ent (af 2 [] Z))).t) ?_;rintro ⟨B',d',htv',_,_,_,q3',_⟩;refine bu (fun w H=>cp (hrr w (H.ent (af 2 [] Z))).m) ?_;rintro ⟨B2,d2,hmv,_⟩;refine bu (fun w H=>cp (hrr' w (H.ent (af 2 [] Z))).m) ?_;rintro ⟨B2',d2',hmv',_⟩;dsimp only at htv htv' hmv hmv' q3 q3';subst htv htv' hmv hmv';refine ak <| ab <| ad <| am <| ad ?_;have hone:∀ (x:ByteArray) (A B:Option Addr) (n m c d:Nat),∀ u∈ [Value.string x,.slice A n c,.slice B m d],u.oneCell'=true:=fun x A B n m c d u hu=>by
  simp only [anj,apb,or_false] at hu;rcases hu with rfl | rfl | rfl <;> rfl
 refine w9 flo 14 _ (by kernel_rfl) Z ax ?_;refine q8 (T:=Nat × Nat) 12 [0,1,2,3,4,5,6,7,8,9,12,13] (fun s=> [(2,pp g2),(3,pp g3),(5,ii i),(6,pp s.1),(7,pp s.2)])
  (fun s=>pt s.1 bi [.string ⟨⟨[]⟩⟩,.slice none 0 0,.slice none 0 0]::pt s.2 bi [.string ⟨⟨[]⟩⟩,.slice none 0 0,.slice none 0 0]::pt g3 bj [vv',.slice (some ⟨gg',oo',none⟩) rs'.length c']::pt g2 bj [vv,.slice (some ⟨gg,oo,none⟩) rs.length c]::F) (fun _=>True) ?_ (fun J=> ?_)
 rotate_left
 ·refine pg (10,[]) [(11,[])] (by kernel_rfl) ⟨jf _ Z ax ?_,jf _ Z ax ?_,trivial⟩
  ·refine jt Z Z Z Z Z Z ax fun g6=> ?_;refine aq (io (af 1 [] Z) (nu 11 0 (by kernel_rfl) Z ?_));refine jt Z Z Z Z Z Z (af 1 [] Z) fun g7=>aq <| io (af 2 [] Z) ?_
   exact J (g6,g7) _ _ _ trivial (by kernel_rfl) ⟨rfl,rfl,rfl,rfl,rfl,trivial⟩ (af 2 [1,0] Z)
  ·refine jt Z Z Z Z Z Z ax fun g7=> ?_;refine aq (io (af 1 [] Z) (nu 10 0 (by kernel_rfl) Z ?_));refine jt Z Z Z Z Z Z (af 1 [] Z) fun g6=>aq <| io (af 2 [] Z) ?_
   exact J (g6,g7) _ _ _ trivial (by kernel_rfl) ⟨rfl,rfl,rfl,rfl,rfl,trivial⟩ ax
 rintro ⟨g6,g7⟩ _;dsimp only;refine pg (12,[0,1,2,3,4]) [] (by kernel_rfl) ⟨jm 0 5 (L2:= []) Z Z ?_,trivial⟩;refine ay Z Zl <| cl 1 Z Z Z Z <| ay Z Zl <| cq Z Z ?_;refine ij Z (fun w H=>cg (cs:=rpC ⟨nm,.slice B ts.length d,ts,.slice B2 ms.length d2,ms⟩) Z Z Z Z (fun j hj=>by rw [bq,am6];exact hcr w (H.ent (af 2 [] Z)) j hj)) Z Z ?_;refine aq <| s0 (af 2 [] Z) <| jf _ Z ax <| aE (vs:=rpC ⟨nm,.slice B ts.length d,ts,.slice B2 ms.length d2,ms⟩) 0 Z Z Z Z Z Z Z Z Z (hone _ _ _ _ _ _ _) Z (af 2 [] Z) <| aq <| io (af 2 [] Z) ?_;refine pg (13,[5,6,7,8,9]) [] (by kernel_rfl) ⟨jm 5 5 (L2:= []) Z Z ?_,trivial⟩;refine ay Z Zl <| cl 0 Z Z Z Z <| ay Z Zl <| cq Z Z ?_;refine ij Z (fun w H=>cg (cs:=rpC ⟨nm,.slice B' ts'.length d',ts',.slice B2' ms.length d2',ms⟩) Z Z Z Z (fun j hj=>by rw [bq,am6];exact hcr' w (H.ent (af 2 [] Z)) j hj)) Z Z ?_;refine aq <| s0 (af 2 [] Z) <| jf _ Z ax <| aE (vs:=rpC ⟨nm,.slice B' ts'.length d',ts',.slice B2' ms.length d2',ms⟩) 1 Z Z Z Z Z Z Z Z Z (hone _ _ _ _ _ _ _) Z (af 2 [] Z) ?_;refine aq (io (af 2 [] Z) (yq 0 0 (by kernel_rfl) (by kernel_rfl) Z (aq ?_)));refine ab <| ad <| akw <| ae Z <| bt 0 Z Z Z <| ae Z <| bt 1 Z Z Z <| am4 Z Z ?_;refine bm 46 (.bool false) Z (by
  show Value.bool (!decide _)=_;rw [ani rfl];rfl) ?_
 refine ae Z <| bt 0 Z Z Z <| am4 Z Z <| bt 1 Z Z Z <| am5 Z Z Z <| ae Z ?_;refine bm 55 (.bool false) Z (by
  show Value.bool (!decide _)=_;rw [ani (by omega)];rfl) ?_
 refine ae Z <| bt 0 Z Z Z <| ae Z <| bt 1 Z Z Z <| bg Z Z Z (pV (hs:=ms) (fun w H=>(hrr w (H.ent (af 4 [] Z))).m) (fun w H=>(hrr' w (H.ent (af 4 [] Z))).m) (fun h hh=>(hrw.mh h hh).id.1) hmn) <| am4 Z Z <| akv <| aj Z <| ak <| ab <| akw <| ae Z <| akv <| am <| dt (S:=Nat) (fun j=> [(2,pp g2),(3,pp g3),(5,ii i),(6,pp g6),(7,pp g7),(8,ii j)]) (fun _=>pt g6 bi (rpC ⟨nm,.slice B ts.length d,ts,.slice B2 ms.length d2,ms⟩)::pt g7 bi (rpC ⟨nm,.slice B' ts'.length d',ts',.slice B2' ms.length d2',ms⟩)::pt g3 bj [vv',.slice (some ⟨gg',oo',none⟩) rs'.length c']::pt g2 bj [vv,.slice (some ⟨gg,oo,none⟩) rs.length c]::F) (fun j=>j≤ts.length) (fun j=>ts.length - j) 0 ax (anq _) ?_;intro j hj;refine ad <| akw <| am4 Z Z <| bt 0 Z Z Z <| am4 Z Z <| akv ?_;refine de Z (fun h3=> ?_) (fun h3=> ?_);rotate_left
 ·refine bz <| au <| av <| ap <| bh <| ab <| aa <| ae Z <| az Z <| ae Z <| ac ?_;rw [show (i:Int)+1=((i+1:Nat):Int) by omega];exact cw (i+1) (af 4 [2,3] Z) (show i+1≤_ by omega)
 have h3':j<ts.length:=by omega
 have h4':j<ts'.length:=by omega
 obtain ⟨gT,oT,rfl⟩:=q3 (by omega);obtain ⟨gT',oT',rfl⟩:=q3' (by omega);have hxe:ts[j].pl=ts'[j].pl:=by
  have:(ts.map Tg.pl)[j]'(by rw [anf];exact h3')=(ts'.map Tg.pl)[j]'(by rw [anf];exact h4'):=by simp only [hts]
  rwa [aox,aox] at this
 have hct:∀ w,Sat b F w→∀ k,k<2→w.cell? ⟨gT,oT+j*2+k,none⟩=(tgC ts[j])[k]?:=fun w H k hk=>fb (f:=tgC) (hrr w H).t (fun _ _=>rfl) h3' hk
 have hct':∀ w,Sat b F w→∀ k,k<2→w.cell? ⟨gT',oT'+j*2+k,none⟩=(tgC ts'[j])[k]?:=fun w H k hk=>fb (f:=tgC) (hrr' w H).t (fun _ _=>rfl) h4' hk
 have hxh:∀ w,Sat b F w→SL w 34 ts[j].hv ts[j].hs.length (wx ts[j].hs):=fun w H=>(hrr w H).g _ (ana h3')
 have hxh':∀ w,Sat b F w→SL w 34 ts'[j].hv ts'[j].hs.length (wx ts'[j].hs):=fun w H=>(hrr' w H).g _ (ana h4')
 have hxk:=hrw.gh _ (ana h3');have hxn:=hrw.gn _ (ana h3');generalize ts[j]=x at *;generalize ts'[j]=x' at *;obtain ⟨xn,xv,xs⟩:=x;obtain ⟨xn',xv',xs'⟩:=x';obtain rfl:xn=xn':=am7 TG.nm hxe;obtain rfl:xs=xs':=am7 TG.hs hxe;refine ak <| ab <| ad <| am <| ad <| cn flo _ (by decide +kernel) ax <| ay Z Zl <| cl 0 Z Z Z Z <| ay Z Zl <| cq Z Z <| ay Z Zl ?_;refine ij Z (fun w H=>br (v:= .string xn) Z Z Z (by rw [bq,am6];exact (hct w (H.ent (af 4 [] Z)) 0 (by omega)).trans Z)) Z Z ?_;refine ay Z Zl <| cl 1 Z Z Z Z <| ay Z Zl <| cq Z Z <| ay Z Zl ?_;refine ij Z (fun w H=>br (v:= .string xn) Z Z Z (by rw [bq,am6];exact (hct' w (H.ent (af 4 [] Z)) 0 (by omega)).trans Z)) Z Z ?_;refine ay Z Zl <| ay Z Zl ?_;refine cz 83 (.bool false) Z (by
  show Value.bool (!decide _)=_;rw [ani rfl];rfl) ?_
 refine ay Z Zl <| cl 0 Z Z Z Z <| ay Z Zl <| cq Z Z <| ay Z Zl ?_;refine ij Z (fun w H=>br (v:=xv) Z Z Z (by rw [bq,am6];exact (hct w (H.ent (af 4 [] Z)) 1 (by omega)).trans Z)) Z Z ?_;refine ay Z Zl <| cl 1 Z Z Z Z <| ay Z Zl <| cq Z Z <| ay Z Zl ?_;refine ij Z (fun w H=>br (v:=xv') Z Z Z (by rw [bq,am6];exact (hct' w (H.ent (af 4 [] Z)) 1 (by omega)).trans Z)) Z Z ?_;refine dh Z Z Z Z (pV (hs:=xs) (fun w H=>hxh w (H.ent (af 4 [] Z))) (fun w H=>hxh' w (H.ent (af 4 [] Z))) (fun h hh=>(hxk h hh).id.1) hxn) ax <| ay Z Zl <| ay Z Zl <| aq <| ab <| aj Z <| ak <| bh <| ab <| aa <| ae Z <| az Z <| ae Z <| ac ?_;rw [show (j:Int)+1=((j+1:Nat):Int) by omega];exact cw (j+1) ax (show j+1≤_ by omega)
end

theorem Vi {w:Int} {X:BL} {V V':List Int} {D:List Ev} {k:Nat} (h:Dls w X V ((D.drop k).map nE) V') (hk:k<D.length):fq V D[k].r D[k].n=false∧lf D[k].deps V=true∧wc V D[k].r D[k].n=lg V D[k].r D[k].n∧Dls w X (lg V D[k].r D[k].n) ((D.drop (k+1)).map nE) V':=by
 rw [an8 hk,ant] at h;cases h with
 | cons h1 h2 h3 h4 _ h => exact ⟨h1, h2, h3, h⟩
theorem Vj {w:Int} {X:BL} {V V':List Int} (h:Dls w X V [] V'):V'=V:=by cases h;rfl
theorem aae {w:Int} {X:BL} {V V':List Int} {D:List Ev} (h:Dls w X V D V'):∀ e∈D,EW e:=by
 induction h with
 | nil => intro e he; cases he
 | cons _ _ _ _ h5 _ ih =>
  intro e he;rcases anj.1 he with rfl | he
  ·exact h5
  ·exact ih e he
theorem Xm {e:Ev} (h:EW (nE e)):EW e:=⟨h.id,h.dot,h.rf,h.kind,h.dp,h.rs,h.ts⟩
theorem J7 {α β:Type} {f:α→List β} {l:List α} {x:α} (h:x∈l):(f x).length≤(l.flatMap f).length:=by
 obtain ⟨l1,l2,rfl⟩:=ao3 h;simp only [ap9,List.flatMap_cons,am9];omega
theorem Ih {α β:Type} {f:α→List β}:∀ {l:List α},(∀ x∈l,f x≠ [])→l.length≤(l.flatMap f).length
 | [], _ => anq _
 | x :: l, h => by
  have h1:=Ih (f:=f) (l:=l) fun y hy=>h y (ank _ hy)
  have h2:0<(f x).length:=arh.2 (h x anl);simp only [List.flatMap_cons,am9,anp];omega
structure TQ (l:List Ev) (m:Nat) (V:List Int) (out:List Ev) (t:Tb):Prop where
 ti:TI m out t.pl
 v:t.V=V
 w:TW t
 lq:∀ y∈out,lf y.deps V=true
 ol:∀ y∈out,∃ x∈l,nE x=nE y
section
variable {l:List Ev} {m:Nat} {V:List Int} {out:List Ev} {t:Tb}
theorem TQ.tk (h:TQ l m V out t) (hG:ir m l):TK t:=⟨h.w,h.ti.tok hG.n1 hG.n2 fun e he=>by
 obtain ⟨x,hx,h1⟩:=h.ol e he;obtain ⟨_,_,_,f1,f2,f3,_⟩:=l5 h1;rw [← f1,← f2,← f3];exact ⟨hG.repo x hx,fun k=>hG.tag x hx (.inl k)⟩⟩
theorem TQ.few (h:TQ l m V out t) (hl:l.length≤12):(jJ t.pl.rs).length≤12:=by
 have h1:=tu h.ti.nodup (l':=l.map dotE) fun d hd=>by
  obtain ⟨p,x,hx,rfl⟩:=yK h.ti.rs hd;obtain ⟨e,he,_,rfl,_⟩:=(h.ti.at_ p x).1 hx;obtain ⟨y,hy,h2⟩:=h.ol e he;obtain ⟨f1,f2,_⟩:=l5 h2;exact anb.2 ⟨y,hy,aqq f1 f2⟩
 rw [anf] at h1;omega
theorem TQ.dk (h:TQ l m V out t) (hl:l.length≤12):DK 12 t.rs:=by
 have hf:=h.few hl;have hrs:=h.ti.rs;have hok:∀ r∈t.rs,Zm r.pl:=fun r hr=>hrs.ok _ (anb.2 ⟨r,hr,rfl⟩)
 have hdr:∀ r∈t.rs,(mY r.pl).length≤12:=fun r hr=>aoz (J7 (f:=mY) (l:=t.pl.rs) (anb.2 ⟨r,hr,rfl⟩)) hf
 have hgl:∀ r∈t.rs,((r.pl.ts.flatMap fun g=>g.hs.map (·.d)).length≤12)∧r.ms.length≤12:=fun r hr=>by
  have h1:=hdr r hr;unfold mY at h1;rw [am9,anf] at h1;have e1:r.pl.ms.length=r.ms.length:=rfl;omega
 refine ⟨hrs.w,h.w.rw,?_,fun r hr=>⟨?_,(hgl r hr).2,fun g hg=> ?_⟩⟩
 ·have h1:=Ih (f:=mY) (l:=t.pl.rs) fun x hx=>by
   have hk:=hrs.ok x hx;unfold mY;rcases hk.ne with h2 | h2
   ·obtain ⟨g,hg⟩:=apx _ h2;obtain ⟨y,hy⟩:=apx _ (hk.th g hg).1;intro hc;have h3:=(List.append_eq_nil_iff.1 hc).1;have:y.d∈(x.ts.flatMap fun g=>g.hs.map (·.d)):=aq2.2 ⟨g,hg,anb.2 ⟨y,hy,rfl⟩⟩;rw [h3] at this;cases this
   ·intro hc;exact h2 (List.map_eq_nil_iff.1 (List.append_eq_nil_iff.1 hc).2)
  have e1:t.pl.rs.length=t.rs.length:=anf _;unfold jJ at hf;omega
 ·have h1:=Ih (f:=fun g:TG=>g.hs.map (·.d)) (l:=r.pl.ts) fun g hg hc=>((hok r hr).th g hg).1 (List.map_eq_nil_iff.1 hc)
  have e1:r.pl.ts.length=r.ts.length:=anf _;have:=(hgl r hr).1;omega
 ·have h1:=J7 (f:=fun g:TG=>g.hs.map (·.d)) (l:=r.pl.ts) (x:=g.pl) (anb.2 ⟨g,hg,rfl⟩);rw [anf] at h1;have e1:g.pl.hs.length=g.hs.length:=rfl;have:=(hgl r hr).1;omega
theorem TQ.nxt (h:TQ l m V out t) (hG:ir m l) {e x:Ev} (hx:x∈l) (hxe:nE x=nE e) (h1:fq V e.r e.n=false) (h2:lf e.deps V=true):Nxt t.V e:=by
 obtain ⟨f1,f2,f3,f4,f5,f6,_⟩:=l5 hxe;obtain ⟨a1,a2,a3,a4,a5,a6,a7⟩:=vi (hG.fit x hx);rw [f1] at a1 a2 a7;rw [f2] at a3 a4 a7;rw [f3] at a5 a6 a7;have hV:V.length=m:=by rw [← h.v];exact h.ti.vl
 have hk:=hG.kind x hx;have hr:=hG.repo x hx;have ht:=hG.tag x hx;rw [f4] at hk ht;rw [f5] at hr;rw [f6] at ht;rw [h.v];refine ⟨a1,by omega,a3,a4,h1,by omega,a6,?_,h2,a7,hk,hr,ht⟩;have h3:=(qx _ _).1 h2 (e.r - 1).toNat;have hi:(e.r - 1).toNat<e.deps.length:=by omega
 rw [pU a6 hi] at h3;rw [jz hi] at a7;have h4:atL V e.r=nn V (e.r - 1).toNat:=by unfold atL;rw [if_pos (by omega)]
 have h5:¬ e.n≤atL V e.r:=fun hc=>by
  rw [mt.2 ⟨a1,a3,hc⟩] at h1;cases h1
 omega
theorem TQ.step (h:TQ l m V out t) (hG:ir m l) (hl:l.length≤12) {e x:Ev} (hx:x∈l) (hxe:nE x=nE e) (h1:fq V e.r e.n=false) (h2:lf e.deps V=true) (h3:wc V e.r e.n=lg V e.r e.n) {t':Tb} (a1:t'.V=wc t.V e.r e.n) (a2:ve (t'.rs.map Rp.pl)) (a3:∀ p,atP p (t'.rs.map Rp.pl)=uc e p (atP p (t.rs.map Rp.pl))) (a4:∀ r∈t'.rs,RW r) (a5:t'.rs.length≤12+3) :
  TQ l m (lg V e.r e.n) (out ++ [e]) t':=by
 have hn:=h.nxt hG hx hxe h1 h2;have hv:=h.v;have hself:fq e.deps e.r e.n=false:=by
  obtain ⟨f1,f2,f3,_⟩:=l5 hxe;rw [← f1,← f2,← f3];exact hG.self hx
 have hVm:V.length=m:=by rw [← hv];exact h.ti.vl
 have hat:t'.pl.V=lg t.pl.V e.r e.n:=by show t'.V=lg t.V e.r e.n;rw [a1,hv,h3]
 have hle:lf V (lg V e.r e.n)=true:=by
  have:=hn.nx;rw [hv] at this;have h8:=hn.r2;rw [hv] at h8;exact mV hn.r1 h8 (by omega)
 have hti:=h.ti.step (t':=t'.pl) (e:=e) (by show fq t.V _ _=false;rw [hv];exact h1) hn.le hself (fun y hy=>by show lf _ t.V=true;rw [hv];exact h.lq y hy) hn.r1 (by have:=hn.r2;rw [hv,hVm] at this;exact this) hn.nx hn.n1 hn.n2 a2 hat a3;refine ⟨hti,by rw [a1,hv,h3],⟨by have:=hti.vl;have h9:t'.pl.V=t'.V:=rfl;rw [h9] at this;have:=hG.n2;omega,by omega,a4⟩,fun y hy=> ?_,fun y hy=> ?_⟩
 ·rcases anr.1 hy with hy | hy
  ·exact za (h.lq y hy) hle
  ·rw [anc.1 hy];exact za h2 hle
 ·rcases anr.1 hy with hy | hy
  ·exact h.ol y hy
  ·rw [anc.1 hy];exact ⟨x,hx,hxe⟩
theorem TQ.fresh (h:TQ l m V out t) {e:Ev} (h1:fq V e.r e.n=false):∀ p,∀ x∈atP p (t.rs.map Rp.pl),x.d≠dotE e:=fun p x hx hc=>by
 have h2:=h.ti.dots (p:=p) (x:=x) hx;have h3:fq V x.d.1 x.d.2=true:=by rw [← h.v];exact h2
 rw [hc,h1] at h3;cases h3
end
theorem oZ {w:World} {t:Tb} (h:TR w t):∀ u∈tbC t,u.oneCell'=true:=fun u hu=>by
 obtain ⟨A,c,h1,_⟩:=h.v.form;obtain ⟨A2,c2,h2,_⟩:=cp h.r;simp only [tbC,anj,apb,or_false] at hu;rcases hu with rfl | rfl
 ·rw [h1];rfl
 ·rw [h2];rfl

section
variable {b:World} {F:List SP} {g gw:Nat} {v va:Value} {lim:Int} {s:WS}
theorem Fb {X:Value} {p:Bool × List Int} (hf:∀ G,Ent G F→SC Tryz.prog p7 [.slice none 0 0,X] b (rB (.slice none 0 0) []::G) (fun u F'=>∃ r,u = .tuple ⟨[r,.bool p.1]⟩∧F'=rB r p.2::G))
  (hl:lim≤67108864) (hs:(s.b.length:Int)≤lim) (hp:p.2.length≤40000000) :
  SC Tryz.prog iR [pp g,X] b (wtP g gw v lim s++F) (fun u F'=>∃ v',u=ii (zl lim p s).e∧F'=wtP g gw v' lim (zl lim p s)++F):=by
 refine aw Tryz.func168 Z Z Z <| akw <| ae Z <| akv <| ad <| akw <| ae Z <| bg Z Z Z (Je) <| akv <| aj Z <| ak <| ab <| ad <| akw <| am5 Z Z Z <| bt 0 Z Z Z <| bg Z Z Z (iA.at (af 3 [1,0,2] Z) (af 3 [1,0,2] Z)) <| ae Z <| akv ?_;by_cases h1:s.e≠0
 ·have hw:zl lim p s=s:=by unfold zl;rw [if_pos h1]
  refine ik 14 (.bool false) Z (by rw [ani h1];rfl) ?_;refine aj Z <| ak <| ab <| akw <| am5 Z Z Z <| bt 0 Z Z Z <| am5 Z Z Z <| bt 1 Z Z Z <| ae Z <| akv <| ai <| ar Z Z ax ?_;exact ⟨v,by rw [hw];rfl,by rw [hw]⟩
 have h1':s.e=0:=by simpa using h1
 refine ik 14 (.bool true) Z (by rw [ans h1];rfl) ?_;refine ao Z <| akw <| ae Z <| eo (df m8 1 Z) <| bf Z Z Z (hf _ (af 3 [] Z)) ?_;rintro _ _ ⟨r,rfl,rfl⟩
 (iterate 5 refine ae Z ?_)
 refine akv <| am <| akw <| am5 Z Z Z <| akv ?_;by_cases h2:p.1=false
 ·have hw:zl lim p s=⟨s.b,3⟩:=by unfold zl;rw [if_neg h1,if_pos h2]
  rw [h2];refine ao Z <| aa <| am5 Z Z Z <| bt 1 Z Z Z <| bf Z Z Z ((tp).ent (af 4 [2,1,3] Z)) ?_;rintro _ _ rfl;refine ac <| bh <| ab <| akw <| am5 Z Z Z <| bt 1 Z Z Z <| am5 Z Z Z <| bt 0 Z Z Z <| ae Z <| akv <| ai ?_;rw [if_pos h1'];refine ar Z Z (af 3 [1,0,2] Z) ?_;exact ⟨v,by rw [hw];rfl,by rw [hw,if_pos h1'];rfl⟩
 have h2':p.1=true:=by simpa using h2
 rw [h2'];refine bu (fun w H=>(H.oat (k:=0) Z).form) ?_;rintro ⟨A,c,rfl,hc1,hc2,hc3⟩;refine bu (fun w H=>(H.oat (k:=3) Z).form) ?_;rintro ⟨A2,c2,rfl,_,_,_⟩;refine aj Z <| ad <| cn flo _ (by decide +kernel) ax <| ay Z Zl <| ay Z Zl <| ay Z Zl <| cl 1 Z Z Z Z <| ay Z Zl <| ay Z Zl <| ay Z Zl <| cq Z Z <| ay Z Zl <| ay Z Zl <| ay Z Zl <| cl 1 Z Z Z Z <| ay Z Zl <| ay Z Zl <| aq <| ab ?_;refine de Z (fun h3=> ?_) (fun h3=> ?_)
 ·have hw:zl lim p s=⟨s.b,4⟩:=by unfold zl;rw [if_neg h1,if_neg h2,if_pos (by omega)]
  refine aa <| am5 Z Z Z <| bt 1 Z Z Z <| bf Z Z Z ((tp).ent (af 4 [2,1,3] Z)) ?_;rintro _ _ rfl;refine ac <| bh <| ab <| akw <| am5 Z Z Z <| bt 1 Z Z Z <| am5 Z Z Z <| bt 0 Z Z Z <| ae Z <| akv <| ai ?_;rw [if_pos h1'];refine ar Z Z (af 3 [1,0,2] Z) ?_;exact ⟨_,by rw [hw];rfl,by rw [hw,if_pos h1'];rfl⟩
 ·have hw:zl lim p s=⟨s.b++p.2,0⟩:=by unfold zl;rw [if_neg h1,if_neg h2,if_neg (by omega)]
  refine aa <| am5 Z Z Z <| ae Z <| bt 1 Z Z Z <| ae Z <| ef 3 Z Z Z Z Z Z Z Z Z (vlB (l:=p.2) (k:=0) Z) (ib _) (by omega) (fun _=>rfl) fun r'=> ?_;refine eo (u7 (l:=s.b++p.2) 3 Z (by simp) (by simp) Z) ?_;refine b9 (fun w H=>(H.oat (k:=3) Z).form) ?_;rintro ⟨A3,c3,rfl,_,_,_⟩;refine am4 Z Z <| eu 1 Z Z Z Z <| ac <| bh <| ab <| akw <| am5 Z Z Z <| bt 1 Z Z Z <| am5 Z Z Z <| bt 2 Z Z Z <| ae Z <| akv <| ai <| ar Z Z (af 4 [1,2,3] Z) ?_;exact ⟨_,by rw [hw,h1'];rfl,by rw [hw,h1'];rfl⟩
theorem Ii {n:Int} (hn:I64 n) (hl:lim≤67108864) (hs:(s.b.length:Int)≤lim) :
  SC Tryz.prog iL [pp g,ii n] b (wtP g gw v lim s++F) (fun _ F'=>∃ v',F'=wtP g gw v' lim (zl lim (kI n) s)++F):=by
 have h9:=to n;refine aw Tryz.func84 Z Z Z <| akw <| ae Z <| aan <| am5 Z Z Z ?_;refine bf Z Z Z (Fb (p:=kI n) (fun G _=>mP hn (by simp)) hl hs (by simp only [kI];omega)) ?_;rintro _ _ ⟨v',rfl,rfl⟩;refine ae Z <| akv <| ai <| ar Z Z ax ?_;exact ⟨v',rfl⟩
theorem aaf {r n:Int} (hr:I64 r) (hn:I64 n) (hl:lim≤67108864) (hs:(s.b.length:Int)≤lim) :
  SC Tryz.prog iS [pp g,nh r n] b (wtP g gw v lim s++F) (fun _ F'=>∃ v',F'=wtP g gw v' lim (zl lim (qG r n) s)++F):=by
 have h9:=to n;have h9r:=to r;refine aw Tryz.func169 Z Z Z <| akw <| bx Z Z Z Z Z fun g3=>ae Z <| aan <| ae Z <| bt 0 Z Z Z <| ae Z ?_
 refine bf Z Z Z ((Fb (F:=pt g3 t_api_Dot [ii r,ii n]::F) (p:=qG r n) (fun G _=>Tt hr hn (by simp)) hl hs (by simp only [qG,am9];omega)).ent (af 4 [1,2,3,0] Z)) ?_;rintro _ _ ⟨v',rfl,rfl⟩;refine ae Z <| akv <| ai <| ar Z Z (af 4 [0,1,2] Z) ?_;exact ⟨v',rfl⟩
theorem akh {l:List Int} (h:l.length=32) (hl:lim≤67108864) (hs:(s.b.length:Int)≤lim) :
  SC Tryz.prog jZ [pp g,idV l] b (wtP g gw v lim s++F) (fun _ F'=>∃ v',F'=wtP g gw v' lim (zl lim (pID l) s)++F):=by
 refine aw Tryz.func170 Z Z Z <| akw <| bx Z Z Z Z Z fun g3=>ae Z <| aan <| ae Z <| du 0 Z Z Z Z Z Z (ll h) Z <| ae Z ?_
 refine bf Z Z Z ((Fb (F:=pt g3 t_api_ID (u8s l)::F) (p:=pID l) (fun G _=>Po h (by simp)) hl hs (by simp only [pID];omega)).ent (af 4 [1,2,3,0] Z)) ?_;rintro _ _ ⟨v',rfl,rfl⟩;refine ae Z <| akv <| ai <| ar Z Z (af 4 [0,1,2] Z) ?_;exact ⟨v',rfl⟩
theorem J8 {t:ByteArray} (ht:t.size≤1000000) (hl:lim≤67108864) (hs:(s.b.length:Int)≤lim) :
  SC Tryz.prog eS [pp g,.string t] b (wtP g gw v lim s++F) (fun _ F'=>∃ v',F'=wtP g gw v' lim (zl lim (aH (fe t)) s)++F):=by
 have h9:=to t.size;have hsz:=sf t;refine aw Tryz.func85 Z Z Z <| akw <| ae Z <| aan <| am5 Z Z Z ?_;refine bf Z Z Z (Fb (p:=aH (fe t)) (fun G _=>(Ts ht (by simp)).mono fun _ _ ⟨r,h1,h2⟩=>⟨r,h1,by rw [h2];simp only [aH,hsz,aos]⟩) hl hs (by simp only [aH,am9,hsz];omega)) ?_;rintro _ _ ⟨v',rfl,rfl⟩;refine ae Z <| akv <| ai <| ar Z Z ax ?_;exact ⟨v',rfl⟩
theorem aag {vx:Value} {xs:List Int} (ha:∀ w,Sat b F w→VL (Value.int .i64) w vx xs) (hx:∀ x∈xs,I64 x) (hn:xs.length≤1000000) (hl:lim≤67108864) (hs:(s.b.length:Int)≤lim) :
  SC Tryz.prog cL [pp g,vx] b (wtP g gw v lim s++F) (fun _ F'=>∃ v',F'=wtP g gw v' lim (zl lim (qH xs) s)++F):=by
 have h9:=to xs.length;have hf:=Wz xs;refine aw Tryz.func83 Z Z Z <| akw <| ae Z <| aan <| am5 Z Z Z ?_;refine bf Z Z Z (Fb (p:=qH xs) (fun G hG=>(Tv (bs:= []) (up ha hG) hx hn (anq _)).mono fun _ _ ⟨r,h1,h2⟩=>⟨r,h1,h2.trans (by rw [aos])⟩) hl hs (by simp only [qH,am9];omega)) ?_;rintro _ _ ⟨v',rfl,rfl⟩;refine ae Z <| akv <| ai <| ar Z Z ax ?_;exact ⟨v',rfl⟩
end

def hdP (h:Hd):List (Bool × List Int):= [qG h.d.1 h.d.2,pID h.id]
def hsP (l:List Hd):List (Bool × List Int):=kI l.length::l.flatMap hdP
def tgP (g:TG):List (Bool × List Int):=aH (fe g.nm)::hsP g.hs
def rpQ (r:RP):List (Bool × List Int):=aH (fe r.nm)::kI r.ts.length::(r.ts.flatMap tgP++hsP r.ms)
def tbQ (t:TB):List (Bool × List Int):=qH t.V::kI t.rs.length::t.rs.flatMap rpQ
theorem vF {lim:Int}:∀ {l:List (Bool × List Int)} {s:WS},(s.b.length:Int)≤lim→((gC lim l s).b.length:Int)≤lim
 | [], _, h => h
 | _ :: l, _, h => vF (l := l) (uB h)
section
variable {b:World} {F:List SP} {g gw:Nat} {v:Value} {lim:Int} {s:WS}
theorem J9 {vh:Value} {hs:List Hd} (hk:∀ h∈hs,bX h) (hn:hs.length≤1000) (hh:∀ w,Sat b F w→SL w 34 vh hs.length (wx hs)) (hl:lim≤67108864) (hb:(s.b.length:Int)≤lim) :
  SC Tryz.prog vR [pp g,vh] b (wtP g gw v lim s++F) (fun _ F'=>∃ v',F'=wtP g gw v' lim (gC lim (hsP hs) s)++F):=by
 have hz:∀ h∈hs,(hdC h).length=34:=fun h hh=>mu (hk h hh).id.1
 refine aw Tryz.func86 Z Z Z <| bu (fun w H=>cp (hh w (H.ent (af 3 [] Z)))) ?_;rintro ⟨A,c,rfl,_,_,_,h4,_⟩;refine akw <| am5 Z Z Z ?_;refine bf Z Z Z (Ii (n:=(hs.length:Int)) (by unfold I64;omega) hl hb) ?_;rintro _ _ ⟨v1,rfl⟩;have hb1:=uB (p:=kI hs.length) hb;refine aan <| am5 Z Z Z <| akv <| am <| dt (S:=Nat × Value) (fun q=> [(0,pp g),(10,.slice A hs.length c),(11,ii hs.length),(12,ii q.1)]) (fun q=>wtP g gw q.2 lim (gC lim (kI hs.length::(hs.take q.1).flatMap hdP) s)++F) (fun q=>q.1≤hs.length) (fun q=>hs.length - q.1) (0,v1) ax (anq _) ?_;rintro ⟨i,v2⟩ hi;dsimp only at hi ⊢;have hb2:=vF (l:=kI hs.length::(hs.take i).flatMap hdP) hb;refine akw <| ae Z <| akv <| ad ?_;refine de Z (fun h1=> ?_) (fun h1=> ?_)
 ·have h1':i<hs.length:=by omega
  obtain ⟨gg,oo,rfl⟩:=h4 (by omega);have hc:∀ w,Sat b F w→∀ j,j<34→w.cell? ⟨gg,oo+i*34+j,none⟩=(hdC hs[i])[j]?:=fun w H j hj=>fb (hh w H) hz h1' hj
  have hsn:hs.take (i+1)=hs.take i ++ [hs[i]]:=ang h1';have hx:=hk _ (ana h1');generalize hs[i]=x at *;have xl:=mu hx.id.1;refine ak <| ab <| ad <| am <| akw <| az Z ?_;refine fc Z (fun w H=>cg (cs:=hdC x) Z Z Z xl (fun j hj=>by rw [bq,am6];exact hc w (H.ent (af 3 [] Z)) j (by rw [xl] at hj;exact hj))) Z ?_;refine db Z Z Z Z Z fun g5=> ?_;refine fh 0 Z Z Z Z Z Z Z xl (rg x) (by rw [xl];rfl) ?_;refine aan <| am4 Z Z <| du 0 Z Z Z Z Z Z (Et x) Z <| bf Z Z Z ((aaf (F:=pt g5 t_api_Held (hdC x)::F) (gF hx.d.1) (gF hx.d.2) hl hb2).ent (af 4 [1,2,3,0] Z)) ?_;rintro _ _ ⟨v3,rfl⟩;have hb3:=uB (p:=qG x.d.1 x.d.2) hb2;refine akv <| aa <| am4 Z Z <| du 3 Z Z Z Z Z Z (uU hx.id.1) Z <| bf Z Z Z (akh (F:=pt g5 t_api_Held (hdC x)::F) hx.id.1 hl hb3) ?_;rintro _ _ ⟨v4,rfl⟩;refine ac <| bh <| ab <| aa <| az Z <| ae Z <| ac ?_;rw [show (i:Int)+1=((i+1:Nat):Int) by omega];refine cw (i+1,v4) ?_ (show i+1≤_ by omega);have e1:gC lim (kI hs.length::(hs.take (i+1)).flatMap hdP) s=zl lim (pID x.id) (zl lim (qG x.d.1 x.d.2) (gC lim (kI hs.length::(hs.take i).flatMap hdP) s)):=by
   rw [hsn,ap9,← aoe,oV];rfl
  dsimp only;rw [e1];exact af 4 [0,1,2] Z
 ·obtain rfl:i=hs.length:=by omega
  rw [an7];refine bz <| au <| av <| ap <| jb Z .nil ax ?_;exact ⟨v2,rfl⟩
abbrev enS (l:List (Bool × List Int)):WS:=gC 67108864 l ⟨[],0⟩
theorem pA (l:List (Bool × List Int)):((enS l).b.length:Int)≤67108864:=vF (by decide)
theorem nI (l:List (Bool × List Int)) (p:Bool × List Int):zl 67108864 p (enS l)=enS (l ++ [p]):=by
 rw [enS,enS,oV];rfl
theorem Ka (l m:List (Bool × List Int)):gC 67108864 m (enS l)=enS (l++m):=(oV _ _ _ _).symm
def Fc (t:TB) (l:List RP):List (Bool × List Int):= [qH t.V,kI t.rs.length]++l.flatMap rpQ
theorem Kb {s:ByteArray} (h:s.size≤1000):s.size≤1000000:=by omega
theorem Ri {t:Tb} (hk:TK t) (hT:∀ w,Sat b F w→TR w t) (hsz:(enS (tbQ t.pl)).b.length≤1000000):SC Tryz.prog sJ [tbV t] b F (fun u F'=>∃ r,u = .tuple ⟨[r,ii (mM (enS (tbQ t.pl))).2]⟩∧F'=rB r (mM (enS (tbQ t.pl))).1::F):=by
 have hW:=hk.w;have hrn:=hW.rn;have hvn:=hW.vn;have hvo:∀ x∈t.V,0≤x∧x≤1048576:=hk.k.vo;refine aw Tryz.func24 Z Z Z <| bu (fun w H=>cp (hT w H).r) ?_;rintro ⟨A,c,hrv,_,_,_,h4,_⟩;refine akw <| bx Z Z Z Z Z fun g1=>am4 Z Z <| akv <| ad <| akw <| bt 0 Z Z Z ?_
 have hT1:∀ w,Sat b (pt g1 bj (tbC t)::F) w→TR w t:=up hT (af 1 [] Z);refine bg (v:=ii 0) Z Z Z (nA hk hT1) <| ae Z <| aan <| am4 Z Z <| akv <| aj Z <| ak <| ab <| akw <| bf Z Z Z (Dx (lim:=67108864) (by decide) (by decide)) ?_;rintro _ _ ⟨g,gw,rfl,rfl⟩
 (iterate 5 refine ae Z ?_)
 refine aan <| am4 Z Z <| bt 3 Z Z Z ?_;refine bf Z Z Z (aag (xs:=t.V) (up (fun w H=>(hT1 w H).v) ax) (fun x hx=>by have:=hvo x hx;unfold I64;omega) (by omega) (by decide) (by decide)) ?_;rintro _ _ ⟨v1,rfl⟩;refine aan <| am4 Z Z <| bt 3 Z Z Z <| bm 26 (.slice A t.rs.length c) Z hrv <| ae Z ?_;have hq1:zl 67108864 (qH t.V) ⟨[],0⟩=enS [qH t.V]:=rfl;rw [hq1];refine bf Z Z Z (Ii (n:=(t.rs.length:Int)) (by unfold I64;omega) (by decide) (pA _)) ?_;rintro _ _ ⟨v2,rfl⟩;rw [nI];refine akv <| ad <| akw <| ae Z <| bt 3 Z Z Z <| bm 30 (.slice A t.rs.length c) Z hrv <| am4 Z Z <| akv <| am ?_;refine dt (S:=Nat × Value) (fun q=> [(5,pp g),(30,.slice A t.rs.length c),(31,ii t.rs.length),(32,ii q.1)]) (fun q=>wtP g gw q.2 67108864 (enS (Fc t.pl ((t.rs.take q.1).map Rp.pl)))++pt g1 bj (tbC t)::F) (fun q=>q.1≤t.rs.length) (fun q=>t.rs.length - q.1) (0,v2) ?_ (anq _) ?_
 ·have e1:t.pl.rs.length=t.rs.length:=anf _;show Ent _ (wtP g gw v2 67108864 (enS (Fc t.pl []))++_);rw [Fc,e1];exact Ent.refl _
 rintro ⟨i,v3⟩ hi;dsimp only at hi ⊢;have hb3:=pA (Fc t.pl ((t.rs.take i).map Rp.pl));generalize hsi:Fc t.pl ((t.rs.take i).map Rp.pl)=S0 at *;refine akw <| ae Z <| akv <| ad ?_;refine de Z (fun h1=> ?_) (fun h1=> ?_)
 ·have h1':i<t.rs.length:=by omega
  obtain ⟨gg,oo,rfl⟩:=h4 (by omega);have hrm:=ana h1';have hcr:∀ w,Sat b F w→∀ j,j<3→w.cell? ⟨gg,oo+i*3+j,none⟩=(rpC t.rs[i])[j]?:=fun w H j hj=>fb (f:=rpC) (by have:=(hT w H).r;rwa [hrv] at this) (fun _ _=>rfl) h1' hj
  have hrr:∀ w,Sat b F w→RR w t.rs[i]:=fun w H=>(hT w H).rr _ hrm
  have hrw:=hW.rw _ hrm;have hsn:t.rs.take (i+1)=t.rs.take i ++ [t.rs[i]]:=ang h1';have hnext:Fc t.pl ((t.rs.take (i+1)).map Rp.pl)=S0++rpQ t.rs[i].pl:=by
   rw [← hsi,hsn,anu,Fc,Fc,ap9,anh];simp
  generalize t.rs[i]=r at *;have htn:=hrw.tn;have hmn:=hrw.mn;refine bu (fun w H=>cp (hrr w (H.ent (af 4 [] Z))).t) ?_;rintro ⟨A3,c3,htv,_,_,_,q4,_⟩;refine bu (fun w H=>(hrr w (H.ent (af 4 [] Z))).one) fun hone=> ?_;refine ak <| ab <| ad <| am <| akw <| az Z ?_;refine fc Z (fun w H=>cg (cs:=rpC r) Z Z Z Z (fun j hj=>by rw [bq,am6];exact hcr w (H.ent (af 4 [] Z)) j hj)) Z ?_;refine db Z Z Z Z Z fun g8=> ?_;refine fh 0 Z Z Z Z Z Z Z Z hone Z <| aan <| am4 Z Z <| bt 0 Z Z Z <| bf Z Z Z ((J8 (F:=pt g8 bi (rpC r)::pt g1 bj (tbC t)::F) (t:=r.nm) (Kb hrw.ns) (by decide) hb3).ent (af 5 [1,2,3,0,4] Z)) ?_;rintro _ _ ⟨v4,rfl⟩;rw [nI];refine aan <| am4 Z Z <| bt 3 Z Z Z <| bm 42 (.slice A3 r.ts.length c3) Z htv <| ae Z ?_;refine bf Z Z Z (Ii (n:=(r.ts.length:Int)) (by unfold I64;omega) (by decide) (pA _)) ?_;rintro _ _ ⟨v5,rfl⟩;rw [nI];refine akv <| ad <| akw <| ae Z <| bt 3 Z Z Z <| bm 46 (.slice A3 r.ts.length c3) Z htv <| am4 Z Z <| akv <| am ?_;refine dt (S:=Nat × Value) (fun q=> [(5,pp g),(8,pp g8),(30,.slice (some ⟨gg,oo,none⟩) t.rs.length c),(31,ii t.rs.length),(32,ii i),(46,.slice A3 r.ts.length c3),(47,ii r.ts.length),(48,ii q.1)]) (fun q=>wtP g gw q.2 67108864 (enS (S0 ++ [aH (fe r.nm)] ++ [kI r.ts.length]++((r.ts.take q.1).map Tg.pl).flatMap tgP))++pt g8 bi (rpC r)::pt g1 bj (tbC t)::F) (fun q=>q.1≤r.ts.length) (fun q=>r.ts.length - q.1) (0,v5) ?_ (anq _) ?_
  ·rw [ap4,aqm,List.flatMap_nil,anv];exact Ent.refl _
  rintro ⟨j,v6⟩ hj;dsimp only at hj ⊢;generalize hsj:S0 ++ [aH (fe r.nm)] ++ [kI r.ts.length]++((r.ts.take j).map Tg.pl).flatMap tgP=S1 at *;refine akw <| ae Z <| akv <| ad ?_;refine de Z (fun h2=> ?_) (fun h2=> ?_)
  ·have h2':j<r.ts.length:=by omega
   obtain ⟨gt,ot,rfl⟩:=q4 (by omega);have hgm:=ana h2';have hct:∀ w,Sat b F w→∀ k,k<2→w.cell? ⟨gt,ot+j*2+k,none⟩=(tgC r.ts[j])[k]?:=fun w H k hk=>fb (f:=tgC) (by have:=(hrr w H).t;rwa [htv] at this) (fun _ _=>rfl) h2' hk
   have hgr:∀ w,Sat b F w→SL w 34 r.ts[j].hv r.ts[j].hs.length (wx r.ts[j].hs):=fun w H=>(hrr w H).g _ hgm
   have hgn:=hrw.gn _ hgm;have hgh:=hrw.gh _ hgm;have hgs:=hrw.gs _ hgm;have hsn2:r.ts.take (j+1)=r.ts.take j ++ [r.ts[j]]:=ang h2';have hnx:S0 ++ [aH (fe r.nm)] ++ [kI r.ts.length]++((r.ts.take (j+1)).map Tg.pl).flatMap tgP=S1++tgP r.ts[j].pl:=by
    rw [← hsj,hsn2,anu,ap9];simp [anh]
   generalize r.ts[j]=y at *;refine bu (fun w H=>Az (hgr w (H.ent (af 5 [] Z)))) fun hone2=> ?_;refine ak <| ab <| ad <| am <| akw <| az Z ?_;refine fc Z (fun w H=>cg (cs:=tgC y) Z Z Z Z (fun k hk=>by rw [bq,am6];exact hct w (H.ent (af 5 [] Z)) k hk)) Z ?_;refine db Z Z Z Z Z fun g10=> ?_;refine fh 0 Z Z Z Z Z Z Z Z hone2 Z <| aan <| am4 Z Z <| bt 0 Z Z Z <| bf Z Z Z ((J8 (F:=pt g10 dx (tgC y)::pt g8 bi (rpC r)::pt g1 bj (tbC t)::F) (t:=y.nm) (Kb hgs) (by decide) (pA S1)).ent (af 6 [1,2,3,0,4,5] Z)) ?_;rintro _ _ ⟨v7,rfl⟩;rw [nI];refine akv <| aa <| am4 Z Z <| bt 3 Z Z Z <| bf Z Z Z (J9 (hs:=y.hs) hgh hgn (fun w H=>hgr w (H.ent (af 3 [] Z))) (by decide) (pA _)) ?_;rintro _ _ ⟨v8,rfl⟩;rw [Ka];refine ac <| bh <| ab <| aa <| az Z <| ae Z <| ac ?_;rw [show (j:Int)+1=((j+1:Nat):Int) by omega];refine cw (j+1,v8) ?_ (show j+1≤_ by omega);dsimp only;rw [hnx];have e1:S1 ++ [aH (fe y.nm)]++hsP y.hs=S1++tgP y.pl:=by rw [anh];rfl
   rw [e1];exact af 6 [0,1,2,4,5] Z
  ·obtain rfl:j=r.ts.length:=by omega
   rw [an7] at hsj;refine bz <| au <| av <| ap <| ab <| aa <| am4 Z Z <| bt 3 Z Z Z <| bf Z Z Z (J9 (hs:=r.ms) hrw.mh hmn (fun w H=>(hrr w (H.ent (af 2 [] Z))).m) (by decide) (pA S1)) ?_;rintro _ _ ⟨v8,rfl⟩;rw [Ka];refine ac <| bh <| ab <| aa <| az Z <| ae Z <| ac ?_;rw [show (i:Int)+1=((i+1:Nat):Int) by omega];refine cw (i+1,v8) ?_ (show i+1≤_ by omega);dsimp only;rw [hnext];have e1:S1++hsP r.ms=S0++rpQ r.pl:=by
    rw [← hsj];have e2:r.pl.ts.length=r.ts.length:=anf _;unfold rpQ;rw [e2];simp [anh,Rp.pl]
   rw [e1];exact af 5 [0,1,2,4] Z
 ·obtain rfl:i=t.rs.length:=by omega
  rw [an7] at hsi;have hfin:S0=tbQ t.pl:=by rw [← hsi];rfl
  refine bz <| au <| av <| ap <| ab <| akw <| ae Z ?_;rw [hfin];refine bf Z Z Z (Tw (s:=enS (tbQ t.pl)) hsz) ?_;rintro _ _ ⟨r,rfl,rfl⟩;refine am5 Z Z Z <| ae Z <| akv <| ai <| fz Z Z Z (af 2 [0] Z) ?_;exact ⟨r,rfl,rfl⟩
end

abbrev rdg (gR g:Nat) (n:Int):SP:=pt gR qE [pp g,ii n,ii 0,ii 0]
theorem vG:∀ {a v:List Value},v.length=a.length→cI a 0 v=some v
 | [], [], _ => rfl
 | _ :: a, x :: v, h => by
  have ih:=vG (a:=a) (v:=v) (by simpa using h);simp only [cI,ih]
 | [], _ :: _, h => by simp at h
 | _ :: _, [], h => by simp at h
theorem Vk {h:Hd} (h32:h.id.length=32):cI ([ii h.d.1,ii h.d.2]++u8s (List.replicate 32 0)) 2 (u8s h.id)=some (hdC h):=by
 have h0:=vG (a:=u8s (List.replicate 32 0)) (v:=u8s h.id) (by rw [dr,dr,h32];rfl);show cI (ii h.d.1::ii h.d.2::u8s (List.replicate 32 0)) 2 (u8s h.id)=_;rw [cI,cI,h0]
 ·rfl
section
variable {b:World} {F:List SP} {gR g gw:Nat} {v:Value} {B:List Int} {s:RS} {n:Int}
theorem Fd (hB:B.length≤1000000) (he:s.e=0) (hf:s.fa=0) (hat:s.at'≤B.length):SC Tryz.prog aZ [pp gR] b (rdg gR g n::wrP g gw v B s++F) (fun u F'=>u = .bool false∧F'=rdg gR g n::wrP g gw v B s++F):=by
 refine aw Tryz.func177 Z Z Z <| akw <| ae Z <| aan <| am5 Z Z Z <| bt 0 Z Z Z <| ae Z <| nq Z (sj Z Z (mq 0 0 0 0)) Z <| am5 Z Z Z <| ae Z <| bt 0 Z Z Z ?_;refine bm 9 (.bool false) Z (by rw [ani ⟨rfl,rfl⟩];rfl) ?_
 skip
 refine bg Z Z Z ((D3 (F:=rdg gR g n::F) hB (fun _=>hat)).at (af 4 [1,2,3,0] Z) (af 4 [3,0,1,2] Z)) <| am4 Z Z ?_;by_cases h0:tZ B s=0
 ·refine se 16 Z h0 <| am5 Z Z Z <| bt 0 Z Z Z <| bg Z Z Z ((Jg (F:=rdg gR g n::F) hB).at (af 4 [1,2,3,0] Z) (af 4 [3,0,1,2] Z)) <| ae Z ?_;have hE:Al B s=(0,0):=by
   unfold tZ at h0;rw [if_neg (by omega)] at h0;unfold Al;rw [if_neg (by omega),he,hf]
  rw [hE];refine nq Z (sj Z Z (mq 0 0 0 0)) Z <| am5 Z Z Z <| akv <| ai <| ar Z Z ax ?_;exact ⟨by rw [ani ⟨rfl,rfl⟩];rfl,rfl⟩
 ·refine sq 16 Z h0 ?_
  (iterate 10 refine ae Z ?_)
  refine akv <| ai <| ar Z Z ax ?_;exact ⟨rfl,rfl⟩
theorem Bl {fn:Nat} [Bodied Tryz.prog fn] {caps:List Value} {i:Nat} {R:Value→List SP→Prop} (hB:B.length≤1000000) (hb:kq B) (hi:j8 B ⟨i,0,0⟩=(1,⟨i+1,0,0⟩)) (hn:1≤n) (hn2:n≤1000000) (hat:i+1≤B.length) (hf:SC Tryz.prog fn caps b (rdg gR g n::wrP g gw v B ⟨i+1,0,0⟩++F) R) :
  SC Tryz.prog cO [pp gR,.func (.func fn) ⟨[]⟩ ⟨caps⟩] b (rdg gR g n::wrP g gw v B ⟨i,0,0⟩++F) (fun _ F'=>∃ u,R u F'):=by
 refine aw Tryz.func90 Z Z Z <| ad <| akw <| ae Z ?_;refine bg Z Z Z (Fd hB Z Z (show i≤B.length by omega)) ?_;refine akv <| aj Z <| ak <| ab <| ad <| cn flo _ (by decide +kernel) ax <| ay Z Zl <| ay Z Zl <| ay Z Zl <| cl 0 Z Z Z Z <| ay Z Zl <| ay Z Zl <| ay Z Zl <| cl 0 Z Z Z Z ?_;refine dh Z Z Z Z ((D3 (F:=rdg gR g n::F) hB (fun _=>(show i≤B.length by omega))).at (af 4 [1,2,3,0] Z) (af 4 [3,0,1,2] Z)) ax ?_;have hrr:tZ B ⟨i,0,0⟩=(B.length:Int) - i:=by unfold tZ;rw [if_neg (by simp)]
 rw [hrr];refine cq Z Z <| ay Z Zl <| aq <| ab <| akw <| am5 Z Z Z <| bt 0 Z Z Z <| bf Z Z Z ((mQ (F:=rdg gR g n::F) hB hb).ent (af 4 [1,2,3,0] Z)) ?_;rintro _ _ ⟨rfl,rfl⟩;rw [hi];dsimp only;refine ae Z <| akv <| ad <| akw <| am5 Z Z Z <| ae Z <| bt 3 Z Z Z <| ae Z <| akv <| oe 28 Z <| aj Z <| ak <| ab <| akw <| am4 Z Z <| akv <| am <| dt (S:=Option (Value × List SP)) (fun q=> [(0,pp gR),(1,.func (.func fn) ⟨[]⟩ ⟨caps⟩),(34,ii 1),(35,ii (match q with | none=>0 | some _=>1))]) (fun q=>match q with | none=>rdg gR g n::wrP g gw v B ⟨i+1,0,0⟩++F | some q=>q.2) (fun q=>match q with | none=>True | some q=>R q.1 q.2) (fun q=>match q with | none=>1 | some _=>0) none (af 4 [3,0,1,2] Z) trivial ?_;rintro (_ | ⟨u,G⟩) hI
 ·dsimp only at hI ⊢;refine akw <| ae Z <| akv <| ad <| ao Z <| ak <| ab <| ad <| am <| ad <| akw <| ae Z <| bg Z Z Z (Fd hB Z Z hat) <| akv <| aj Z <| ak <| ab <| aa <| ae Z <| bf Z Z Z (hf) ?_;rintro u G hR;refine ac <| bh <| ab <| aa <| az Z <| ae Z <| ac ?_;exact cw (some (u,G)) ax hR
 ·dsimp only at hI ⊢;refine akw <| ae Z <| akv <| ad <| aj Z <| bz <| au <| av <| ap <| jb Z .nil ax ?_;exact ⟨u,hI⟩
theorem Rj {g1 g2 i i2 i3:Nat} {h:Hd} (hB:B.length≤1000000) (hb:kq B) (hd:Ak B ⟨i,0,0⟩=(h.d,⟨i2,0,0⟩)) (hi:rID B ⟨i2,0,0⟩=(h.id,⟨i3,0,0⟩)) (hi2:i2≤B.length) (h32:h.id.length=32) :
  SC Tryz.prog qu [pp g1,pp g2] b (rdg gR g n::wrP g gw v B ⟨i,0,0⟩++(pt g2 ou [.slice none 0 0]::pt g1 im [pp gR]::F)) (fun _ F'=>∃ u,F'=rHs u [h]::rdg gR g n::wrP g gw v B ⟨i3,0,0⟩++(pt g2 ou [u]::pt g1 im [pp gR]::F)):=by
 have xl:(hdC h).length=34:=mu h32;refine aw Tryz.func180 Z Z Z <| akw <| bt 5 Z Z Z <| am4 Z Z <| bt 0 Z Z Z <| bf Z Z Z ((T3 (F:=rdg gR g n::pt g2 ou [.slice none 0 0]::pt g1 im [pp gR]::F) hB hb).ent (af 6 [1,2,3,0,4,5] Z)) ?_;rintro _ _ ⟨rfl,rfl⟩;rw [hd];dsimp only;refine ae Z <| db Z Z Z Z Z fun gh=>eu 0 Z Z Z Z <| aan <| bt 6 Z Z Z <| am4 Z Z <| bt 4 Z Z Z <| bf Z Z Z ((Y6 (F:=pt gh t_api_Held ([ii h.d.1,ii h.d.2]++u8s (List.replicate 32 0))::rdg gR g n::pt g2 ou [.slice none 0 0]::pt g1 im [pp gR]::F) hB (fun _=>hi2)).ent (af 7 [1,2,3,0,4,5,6] Z)) ?_
 rintro _ _ ⟨rfl,rfl⟩;rw [hi];dsimp only;refine ae Z ?_;refine M7 (vs:=u8s h.id) (cs':=hdC h) 3 Z Z Z Z Z Z (by rw [dr,h32];rfl) (an4.2 (ib _)) Z (Vk h32) Z ?_;refine akv <| aa <| bt 5 Z Z Z ?_;refine du 3 Z Z Z Z Z Z (dj (by rw [xl];rfl)) Z ?_;refine lr Z Z Z Z Z Z Z xl (by decide) fun gl=>eo (df t_api_Held 34 Z) ?_
 refine ef 0 Z Z Z Z Z Z Z Z Z (m:=1) (news:=hdC h) (fun w' H=>(H.blk (k:=1) Z).sl (by rw [xl]) (by decide)) (rg _) (by omega) (fun _=>rfl) fun v8=> ?_;refine b9 (fun w H=>(H.oat (k:=0) Z).form) ?_;rintro ⟨A9,c9,rfl,_,_,_⟩;refine eu 7 Z Z Z Z <| ac <| jb Z .nil (af 9 [0,6,2,3,4,7,8] Z) ?_;have e9:wx [h]=hdC h:=by simp [flC]
 exact ⟨.slice A9 1 c9,by rw [rHs,e9];rfl⟩
theorem Kc {i i2 i3:Nat} {h:Hd} (hB:B.length≤1000000) (hb:kq B) (hn:1≤n) (hn2:n≤1000000) (hm:j8 B ⟨i,0,0⟩=(1,⟨i+1,0,0⟩)) (hat:i+1≤B.length) (hd:Ak B ⟨i+1,0,0⟩=(h.d,⟨i2,0,0⟩)) (hi:rID B ⟨i2,0,0⟩=(h.id,⟨i3,0,0⟩)) (hi2:i2≤B.length) (h32:h.id.length=32) :
  SC Tryz.prog cP [pp gR] b (rdg gR g n::wrP g gw v B ⟨i,0,0⟩++F) (fun u F'=>F'=rHs u [h]::rdg gR g n::wrP g gw v B ⟨i3,0,0⟩++F):=by
 refine aw Tryz.func94 Z Z Z <| akw <| bx Z Z Z Z Z fun g1=>db Z Z Z Z Z fun g2=>aan <| bt 1 Z Z Z <| ae Z <| bf Z Z Z ((Bl (fn:=qu) (caps:= [pp g1,pp g2]) (F:=pt g2 ou [.slice none 0 0]::pt g1 im [pp gR]::F) hB hb hm hn hn2 hat (Rj (F:=F) hB hb hd hi hi2 h32)).ent (af 6 [2,3,4,5,0,1] Z)) ?_
 rintro _ _ ⟨_,u,rfl⟩;refine b9 (fun w H=>(H.oat (k:=0) Z).form) ?_;rintro ⟨A9,c9,rfl,_,_,_⟩;refine aan <| bt 5 Z Z Z <| eu 5 Z Z Z Z <| akv <| ai <| fw Z (.cell 5 Z Z Z Z Z .nil) (af 7 [0,1,2,3,4] Z) ?_
 rfl
structure HAt (B:List Int) (i i3:Nat) (h:Hd):Prop where
 m:j8 B ⟨i,0,0⟩=(1,⟨i+1,0,0⟩)
 at_:i+1≤B.length
 ex:∃ i2,Ak B ⟨i+1,0,0⟩=(h.d,⟨i2,0,0⟩)∧rID B ⟨i2,0,0⟩=(h.id,⟨i3,0,0⟩)∧i2≤B.length
 l32:h.id.length=32
abbrev dcF (ga gb g gR:Nat) (F:List SP):List SP:=pt ga rc [pp g]::pt gb im [pp gR]::F
theorem aah {ga gb gc i i1 i3:Nat} {h:Hd} {nm tn:ByteArray} (hB:B.length≤1000000) (hb:kq B) (hn:1≤n) (hn2:n≤1000000) (hi:i≤B.length) (hx:qq B 64 ⟨i,0,0⟩=(fe tn,⟨i1,0,0⟩)) (hh:HAt B i1 i3 h) :
  SC Tryz.prog yt [pp ga,pp gb,pp gc] b (rdg gR g n::wrP g gw v B ⟨i,0,0⟩++dcF ga gb g gR (pt gc bi [.string nm,.slice none 0 0,.slice none 0 0]::F)) (fun _ F'=>∃ hv tv,F'=rHs hv [h]::rTs tv [⟨tn,hv,[h]⟩]::rdg gR g n::wrP g gw v B ⟨i3,0,0⟩++dcF ga gb g gR (pt gc bi [.string nm,tv,.slice none 0 0]::F)):=by
 obtain ⟨m1,m2,⟨i2,m3,m4,m5⟩,m6⟩:=hh;refine aw Tryz.func93 Z Z Z <| akw <| bt 4 Z Z Z <| bf Z Z Z ((D1 (most:=64) (F:=rdg gR g n::dcF ga gb g gR (pt gc bi [.string nm,.slice none 0 0,.slice none 0 0]::F)) hB hb (fun _=>hi)).ent (af 7 [1,2,3,0,4,5,6] Z)) ?_;rintro _ _ ⟨rfl,rfl⟩;rw [hx];dsimp only;rw [fZ];refine ae Z <| db Z Z Z Z Z fun g3=>eu 0 Z Z Z Z <| aan <| bt 6 Z Z Z <| bf Z Z Z ((Kc (F:=pt g3 dx [.string tn,.slice none 0 0]::dcF ga gb g gR (pt gc bi [.string nm,.slice none 0 0,.slice none 0 0]::F)) hB hb hn hn2 m1 m2 m3 m4 m5 m6).ent (af 8 [4,1,2,3,0,5,6,7] Z)) ?_
 rintro hv _ rfl;refine b9 (fun w H=>(H.oat (k:=0) Z).form) ?_;rintro ⟨A9,c9,rfl,_,_,_⟩;refine ae Z <| eu 5 Z Z Z Z <| akv <| aa <| ae Z <| bt 8 Z Z Z <| bt 5 Z Z Z <| lr Z Z Z Z Z Z Z Z (by decide) fun gl=>eo (df dx 2 Z) ?_
 refine ef 0 Z Z Z Z Z Z Z Z Z (m:=1) (news:=tgC ⟨tn,.slice A9 1 c9,[h]⟩) (fun w' H=>(H.blk (k:=1) Z).sl Z (by decide)) (fun u hu=>by
  simp only [tgC,anj,apb,or_false] at hu;rcases hu with rfl | rfl <;> rfl) (by omega) (fun _=>rfl) fun v8=> ?_
 refine b9 (fun w H=>(H.oat (k:=0) Z).form) ?_;rintro ⟨A8,c8,rfl,_,_,_⟩;refine eo (af 11 [10,0,1,2,3,4,5,6,7,8,9] Z) <| ae Z <| eu 0 Z Z Z Z <| ac <| jb Z .nil (af 11 [3,1,4,5,6,7,9,10,0] Z) ?_;exact ⟨.slice A9 1 c9,.slice A8 1 c8,rfl⟩
theorem Vl {ga gb gt i i1 i2 i3 i5:Nat} {hT hM:Hd} {nm tn:ByteArray} {vv:Value} (hB:B.length≤1000000) (hb:kq B) (hn:1≤n) (hn2:n≤1000000) (hi:i≤B.length) (hx:qq B 128 ⟨i,0,0⟩=(fe nm,⟨i1,0,0⟩)) (hm:j8 B ⟨i1,0,0⟩=(1,⟨i1+1,0,0⟩)) (hm2:i1+1≤B.length) (hx2:qq B 64 ⟨i1+1,0,0⟩=(fe tn,⟨i2,0,0⟩)) (h1:HAt B i2 i3 hT) (h2:HAt B i3 i5 hM) :
  SC Tryz.prog aV [pp ga,pp gb,pp gt] b (rdg gR g n::wrP g gw v B ⟨i,0,0⟩++dcF ga gb g gR (pt gt bj [vv,.slice none 0 0]::F)) (fun _ F'=>∃ rv tv hv mv,F'=rRs rv [⟨nm,tv,[⟨tn,hv,[hT]⟩],mv,[hM]⟩]::rHs hv [hT]::rTs tv [⟨tn,hv,[hT]⟩]::rHs mv [hM]::rdg gR g n::wrP g gw v B ⟨i5,0,0⟩++dcF ga gb g gR (pt gt bj [vv,rv]::F)):=by
 refine aw Tryz.func91 Z Z Z <| akw <| bt 4 Z Z Z <| bf Z Z Z ((D1 (most:=128) (F:=rdg gR g n::dcF ga gb g gR (pt gt bj [vv,.slice none 0 0]::F)) hB hb (fun _=>hi)).ent (af 7 [1,2,3,0,4,5,6] Z)) ?_;rintro _ _ ⟨rfl,rfl⟩;rw [hx];dsimp only;rw [fZ];refine ae Z <| db Z Z Z Z Z fun g3=>eu 0 Z Z Z Z <| aan <| bt 6 Z Z Z <| ae Z <| bf Z Z Z ((Bl (fn:=yt) (caps:= [pp ga,pp gb,pp g3]) (F:=dcF ga gb g gR (pt g3 bi [.string nm,.slice none 0 0,.slice none 0 0]::pt gt bj [vv,.slice none 0 0]::F)) hB hb hm hn hn2 hm2 (aah (F:=pt gt bj [vv,.slice none 0 0]::F) (nm:=nm) hB hb hn hn2 hm2 hx2 h1)).ent (af 8 [4,1,2,3,5,6,0,7] Z)) ?_
 rintro _ _ ⟨_,hv,tv,rfl⟩;refine aan <| bt 7 Z Z Z <| bf Z Z Z ((Kc (F:=pt g3 bi [.string nm,tv,.slice none 0 0]::rHs hv [hT]::rTs tv [⟨tn,hv,[hT]⟩]::dcF ga gb g gR (pt gt bj [vv,.slice none 0 0]::F)) hB hb hn hn2 h2.m h2.at_ h2.ex.choose_spec.1 h2.ex.choose_spec.2.1 h2.ex.choose_spec.2.2 h2.l32).ent (af 10 [2,3,4,5,8,0,1,6,7,9] Z)) ?_;rintro mv _ rfl;refine b9 (fun w H=>(H.oat (k:=0) Z).form) ?_;rintro ⟨A9,c9,rfl,_,_,_⟩;refine b9 (fun w H=>(H.oat (k:=7) Z).form) ?_;rintro ⟨A7,c7,rfl,_,_,_⟩;refine eo (af 11 [5,10,0,1,2,3,4,6,7,8,9] Z) <| ae Z <| eu 0 Z Z Z Z <| akv <| aa <| ae Z <| bt 1 Z Z Z <| bt 0 Z Z Z <| lr Z Z Z Z Z Z Z Z (by decide) fun gl=>eo (df bi 3 Z) ?_
 refine ef 0 Z Z Z Z Z Z Z Z Z (m:=1) (news:=rpC ⟨nm,.slice A7 1 c7,[⟨tn,hv,[hT]⟩],.slice A9 1 c9,[hM]⟩) (fun w' H=>(H.blk (k:=1) Z).sl Z (by decide)) (fun u hu=>by
  simp only [rpC,anj,apb,or_false] at hu;rcases hu with rfl | rfl | rfl <;> rfl) (by omega) (fun _=>rfl) fun v8=> ?_
 refine b9 (fun w H=>(H.oat (k:=0) Z).form) ?_;rintro ⟨A8,c8,rfl,_,_,_⟩;refine ae Z <| eu 3 Z Z Z Z <| ac <| jb Z .nil (af 13 [0,9,10,4,5,6,7,8,11,12,3] Z) ?_;exact ⟨.slice A8 1 c8,.slice A7 1 c7,hv,.slice A9 1 c9,rfl⟩
end

abbrev vH (nm tn:ByteArray) (hT hM:Hd) (tv hv mv:Value):Rp:=⟨nm,tv,[⟨tn,hv,[hT]⟩],mv,[hM]⟩
abbrev cA (nm tn:ByteArray) (hT hM:Hd) (V:List Int) (vv rv tv hv mv:Value):Tb:=⟨vv,V,rv,[vH nm tn hT hM tv hv mv]⟩
section
variable {b:World} {F:List SP} {B:List Int}
theorem Rk {vb:Value} {V:List Int} {j i1 i2 i3:Nat} {hT hM:Hd} {nm tn:ByteArray} (hv:∀ w,Sat b F w→VL (Value.int .u8) w vb B) (hB:B.length≤1000000) (hb:kq B) (h0:1≤B.length) (hV:Hc B 16 r0=(V,⟨j,0,0⟩)) (hj:j8 B ⟨j,0,0⟩=(1,⟨j+1,0,0⟩)) (hj2:j+1≤B.length)
  (hx:qq B 128 ⟨j+1,0,0⟩=(fe nm,⟨i1,0,0⟩)) (hm:j8 B ⟨i1,0,0⟩=(1,⟨i1+1,0,0⟩)) (hm2:i1+1≤B.length) (hx2:qq B 64 ⟨i1+1,0,0⟩=(fe tn,⟨i2,0,0⟩)) (h1:HAt B i2 i3 hT) (h2:HAt B i3 B.length hM)
  (hk:∀ vv rv tv hv mv,TK (cA nm tn hT hM V vv rv tv hv mv)) :
  SC Tryz.prog sK [vb] b F (fun u F'=>∃ vv rv tv hv mv,u = .tuple ⟨[tbV (cA nm tn hT hM V vv rv tv hv mv),.agg ⟨[ii 0,ii 0]⟩]⟩∧F'=tbP (cA nm tn hT hM V vv rv tv hv mv)++F):=by
 refine aw Tryz.func25 Z Z Z <| bu (fun w H=>(hv w H).form) ?_;rintro ⟨A,c,rfl,_,_,_,_⟩;refine akw <| db Z Z Z Z Z fun g2=>db Z Z Z Z Z fun g3=>aan <| ae Z <| bf Z Z Z (D4 (B:=B) (up hv (af 2 [] Z)) hB) ?_
 rintro _ _ ⟨g,gw,v,rfl,rfl⟩
 skip
 refine db Z Z Z Z Z fun g4=>eu 0 Z Z Z Z <| aan <| bt 0 Z Z Z <| am5 Z Z Z <| bx Z Z Z Z Z fun gR=>db Z Z Z Z Z fun g5=>eu 0 Z Z Z Z <| aan <| bt 2 Z Z Z <| bf Z Z Z ((T5 (most:=16) (s:=r0) (F:=pt g5 im [pp gR]::rdg gR g (B.length:Int)::pt g4 rc [pp g]::pt g3 t_api_Fault [ii 0,ii 0]::pt g2 bj [.slice none 0 0,.slice none 0 0]::F) (by decide) hB hb).ent (af 8 [3,4,5,0,1,2,6,7] Z)) ?_
 rintro vv _ rfl;rw [hV];dsimp only;refine b9 (fun w H=>(H.oat (k:=0) Z).form) ?_;rintro ⟨Av,cv,rfl,_,_,_⟩;refine ae Z <| db Z Z Z Z Z fun g6=>eu 0 Z Z Z Z <| aan <| bt 5 Z Z Z <| ae Z <| bf Z Z Z ((Bl (fn:=aV) (caps:= [pp g4,pp g5,pp g6]) (F:=dcF g4 g5 g gR (pt g6 bj [.slice Av V.length cv,.slice none 0 0]::rZ (.slice Av V.length cv) V::pt g3 t_api_Fault [ii 0,ii 0]::pt g2 bj [.slice none 0 0,.slice none 0 0]::F)) hB hb hj (by omega) (by omega) hj2 (Vl (gt:=g6) hB hb (by omega) (by omega) hj2 hx hm hm2 hx2 h1 h2)).ent (af 10 [6,2,3,4,7,5,0,1,8,9] Z)) ?_
 rintro _ _ ⟨_,rv,tv,hv',mv,rfl⟩;refine eo (af 14 [9,8,4,5,6,7,10,12,13,0,1,2,3,11] Z) ?_;have hT2:∀ {a1 a2 a3 a4 a5 a6 a7 a8 a9:SP},∀ w,Sat b (a1::a2::a3::a4::a5::a6::a7::a8::a9::rRs rv [vH nm tn hT hM tv hv' mv]::rHs hv' [hT]::rTs tv [⟨tn,hv',[hT]⟩]::rHs mv [hM]::rZ (.slice Av V.length cv) V::F) w→TR w (cA nm tn hT hM V (.slice Av V.length cv) rv tv hv' mv):=fun w H=>by
  refine ⟨vlZ (k:=13) Z w H,(H.oat (k:=9) Z).sl,fun r hr=> ?_⟩;rw [anc.1 hr];refine ⟨(H.oat (k:=11) Z).sl,(H.oat (k:=12) Z).sl,fun g hg=> ?_⟩;rw [anc.1 hg];exact (H.oat (k:=10) Z).sl
 refine b9 (fun w H=>(H.oat (k:=9) Z).form) ?_;rintro ⟨Ar,cr,rfl,_,_,_⟩;refine akv <| ad <| akw <| bt 0 Z Z Z <| am4 Z Z <| bt 2 Z Z Z <| ae Z <| nq Z (jM Z Z (mq 0 0 0 0)) Z ?_;refine bm 25 (.bool true) Z (by rw [ani ⟨rfl,rfl⟩]) ?_;refine akv <| ao Z <| cn flo _ (by decide +kernel) ax <| cl 0 Z Z Z Z <| cl 1 Z Z Z Z ?_;have hE:Al B ⟨B.length,0,0⟩=(0,0):=by unfold Al;rw [if_neg (by simp)]
 refine dh (v:= .agg ⟨[ii 0,ii 0]⟩) Z Z Z Z (by
  have:=(Jg (b:=b) (g:=g) (gw:=gw) (v:=v) (B:=B) (s:=⟨B.length,0,0⟩) (F:=pt g5 im [pp gR]::pt g4 rc [pp g]::rdg gR g (B.length:Int)::pt g6 bj [.slice Av V.length cv,.slice Ar 1 cr]::pt g3 t_api_Fault [ii 0,ii 0]::pt g2 bj [.slice none 0 0,.slice none 0 0]::rRs (.slice Ar 1 cr) [vH nm tn hT hM tv hv' mv]::rHs hv' [hT]::rTs tv [⟨tn,hv',[hT]⟩]::rHs mv [hM]::rZ (.slice Av V.length cv) V::F) hB);rw [hE] at this;exact this.at (af 14 [3,4,5,0,1,2,6,7,8,9,10,11,12,13] Z) (af 14 [3,4,5,0,1,2,6,7,8,9,10,11,12,13] Z)) ax ?_
 refine ay Z Zl <| ay Z Zl <| nQ 2 Z Z Z Z Z Z Z Z Z Z Z Z ax <| aq <| ab <| ad <| akw <| bt 0 Z Z Z <| am4 Z Z <| bt 2 Z Z Z <| ae Z <| nq Z (jM Z Z (mq 0 0 0 0)) Z ?_;refine bm 36 (.bool true) Z (by rw [ani ⟨rfl,rfl⟩]) ?_;refine akv <| ao Z <| cn flo _ (by decide +kernel) ax <| cl 0 Z Z Z Z <| cl 6 Z Z Z Z <| dh (v:=ii 0) Z Z Z Z (nA (t:=cA nm tn hT hM V (.slice Av V.length cv) (.slice Ar 1 cr) tv hv' mv) (hk _ _ _ _ _) hT2) ax <| ay Z Zl <| ay Z Zl <| ay Z Zl <| nQ 2 Z Z Z Z Z Z Z Z Z Z Z Z ax <| aq <| ab <| ad <| akw <| bt 0 Z Z Z <| am4 Z Z <| bt 2 Z Z Z <| ae Z <| nq Z (sj Z Z (mq 0 0 0 0)) Z ?_;refine bm 48 (.bool false) Z (by rw [ani ⟨rfl,rfl⟩];rfl) ?_;refine akv <| aj Z <| ak <| ab <| ad <| cn flo (pt g5 im [pp gR]::pt g4 rc [pp g]::rdg gR g (B.length:Int)::pt g6 bj [.slice Av V.length cv,.slice Ar 1 cr]::F) (by decide +kernel) (af 14 [0,1,2,6] Z) <| cl 3 Z Z Z Z <| cl 0 Z Z Z Z <| ay Z Zl <| ay Z Zl <| cl 2 Z Z Z Z <| nQ 8 Z Z Z Z Z Z Z Z Z Z Z Z (af 14 [0,1,2,6] Z) <| nQ 7 Z Z Z Z Z Z Z Z Z Z Z Z (af 14 [0,1,2,6] Z) <| aq <| ab <| ai ?_;refine fw Z (.agg 8 Z Z Z Z Z (.agg 7 Z Z Z Z Z .nil)) (G:=tbP (cA nm tn hT hM V (.slice Av V.length cv) (.slice Ar 1 cr) tv hv' mv)++F) ?_ ?_
 ·refine (af 14 [10,11,12,13,9] Z).trans ((eg (G:= [rHs hv' [hT]])).trans ((af 5 [1,2,0,3,4] Z).trans ((eg (G:=rpP (vH nm tn hT hM tv hv' mv))).trans ((eg (G:= [all (rpP (vH nm tn hT hM tv hv' mv))])).trans ?_))));exact af 3 [1,2,0] Z
 ·exact ⟨_,_,_,_,_,rfl,rfl⟩
end

def nmA:ByteArray:=⟨#[97]⟩
def tnV:ByteArray:=⟨#[118]⟩
def e1X (id:List Int):Ev:=⟨1,1,nS,[0],1,nmA,⟨#[]⟩,id,nS,[id]⟩
def e2X (id:List Int):Ev:=⟨1,2,nS,[1],3,nmA,tnV,id,nS,[id]⟩
abbrev hTX (id:List Int):Hd:=⟨(1,2),id⟩
abbrev hMX (id:List Int):Hd:=⟨(1,1),id⟩
def uX (id:List Int):TB:=⟨[1],[⟨nmA,[],[hMX id]⟩]⟩
def tX (id:List Int):TB:=⟨[2],[⟨nmA,[⟨tnV,[hTX id]⟩],[hMX id]⟩]⟩
deriving instance DecidableEq for RS
deriving instance DecidableEq for WS
structure WX (id B:List Int):Prop where
 ok:idOk id
 nz:id≠List.replicate 32 0
 enc:enS (tbQ (tX id))=⟨B,0⟩
 bo:kq B
 ln:B.length=78
 rV:Hc B 16 r0=([2],⟨2,0,0⟩)
 rj:j8 B ⟨2,0,0⟩=(1,⟨3,0,0⟩)
 rx:qq B 128 ⟨3,0,0⟩=(fe nmA,⟨5,0,0⟩)
 rm:j8 B ⟨5,0,0⟩=(1,⟨6,0,0⟩)
 rt:qq B 64 ⟨6,0,0⟩=(fe tnV,⟨8,0,0⟩)
 hT:HAt B 8 43 (hTX id)
 hM:HAt B 43 B.length (hMX id)
def idL:List Int:= [45,113,22,66,183,38,176,68,1,98,124,169,251,172,50,245,200,83,15,177,144,60,196,219,2,37,135,23,146,26,72,129]
def bL:List Int:= [1,2,1,1,97,1,1,118,1,1,2]++idL ++ [1,1,1]++idL
theorem aki:we [120]=idL:=by decide +kernel
theorem akj:WX idL bL:=by
 have h0:idL.length=32∧idL.all (fun x=>(Lit.int .u8 x).wf)=true∧idL≠List.replicate 32 0∧(∀ x∈bL,0≤x∧x<256)∧bL.length=78:=by decide +kernel
 have h1:enS (tbQ (tX idL))=⟨bL,0⟩:=by decide +kernel
 have h2:Hc bL 16 r0=([2],⟨2,0,0⟩)∧j8 bL ⟨2,0,0⟩=(1,⟨3,0,0⟩)∧qq bL 128 ⟨3,0,0⟩=(fe nmA,⟨5,0,0⟩)∧j8 bL ⟨5,0,0⟩=(1,⟨6,0,0⟩)∧qq bL 64 ⟨6,0,0⟩=(fe tnV,⟨8,0,0⟩):=by decide +kernel
 have h3:j8 bL ⟨8,0,0⟩=(1,⟨9,0,0⟩)∧Ak bL ⟨9,0,0⟩=((1,2),⟨11,0,0⟩)∧rID bL ⟨11,0,0⟩=(idL,⟨43,0,0⟩):=by decide +kernel
 have h4:j8 bL ⟨43,0,0⟩=(1,⟨44,0,0⟩)∧Ak bL ⟨44,0,0⟩=((1,1),⟨46,0,0⟩)∧rID bL ⟨46,0,0⟩=(idL,⟨78,0,0⟩):=by decide +kernel
 obtain ⟨a1,a2,a3,a4,a5⟩:=h0;obtain ⟨c1,c2,c3,c4,c5⟩:=h2;exact ⟨⟨a1,fun x hx=>an4.1 a2 x hx⟩,a3,h1,a4,a5,c1,c2,c3,c4,c5,⟨h3.1,by omega,⟨11,h3.2.1,h3.2.2,by omega⟩,a1⟩,by rw [a5];exact ⟨h4.1,by omega,⟨46,h4.2.1,h4.2.2,by omega⟩,a1⟩⟩
section
variable {id:List Int}
theorem akk:TI 1 [] (⟨[0],[]⟩:TB) :=
 ⟨⟨List.Pairwise.nil,fun r hr=>(by cases hr)⟩,rfl,fun x hx=>(by rw [anc.1 hx];decide),fun p x=>⟨fun h=>(by cases h),fun ⟨y,hy,_⟩=>(by cases hy)⟩,fun e he=>(by cases he),ard⟩
theorem Kd:mo (fe nmA)=(0,0)∧po (fe tnV)=(0,0):=by decide +kernel
theorem am1:Nxt [0] (e1X id):=⟨(by decide:(1:Int)≤1),(by decide:(1:Int)≤1),(by decide:(1:Int)≤1),(by decide:(1:Int)≤1048576),(by decide:fq [0] 1 1=false),rfl,fun x hx=>by rw [anc.1 (show x∈ [0] from hx)];decide,(by decide:atL [0] 1=1 - 1),(by decide:lf [0] [0]=true),rfl,⟨(by decide:(1:Int)≤1),(by decide:(1:Int)≤4)⟩,Kd.1,fun h=>absurd h (by decide:¬ ((1:Int)=3∨(1:Int)=4))⟩
theorem am2:Nxt [1] (e2X id):=⟨(by decide:(1:Int)≤1),(by decide:(1:Int)≤1),(by decide:(1:Int)≤2),(by decide:(2:Int)≤1048576),(by decide:fq [1] 1 2=false),rfl,fun x hx=>by rw [anc.1 (show x∈ [1] from hx)];decide,(by decide:atL [1] 1=2 - 1),(by decide:lf [1] [1]=true),rfl,⟨(by decide:(1:Int)≤3),(by decide:(3:Int)≤4)⟩,Kd.1,fun _=>Kd.2⟩
theorem aai {t:TB} (hr:ve t.rs) (hv:t.V = [1]) (ha:∀ p,atP p t.rs=uc (e1X id) p []):TI 1 [e1X id] t :=
 TI.step (e:=e1X id) akk (by decide:fq [0] 1 1=false) (by decide:lf [0] [0]=true) (by decide:fq [0] 1 1=false) (fun y hy=>by cases hy) (by decide:(1:Int)≤1) (by decide:(1:Int)≤1) (by decide:atL [0] 1=1 - 1) (by decide:(1:Int)≤1) (by decide:(1:Int)≤1048576) hr (hv.trans (by decide : [1]=lg [0] 1 1)) ha
theorem am3 {t t':TB} (h:TI 1 [e1X id] t) (hV:t.V = [1]) (hr:ve t'.rs) (hv:t'.V = [2]) (ha:∀ p,atP p t'.rs=uc (e2X id) p (atP p t.rs)):TI 1 ([e1X id] ++ [e2X id]) t' :=
 TI.step (e:=e2X id) h (by rw [hV];exact (by decide:fq [1] 1 2=false)) (by rw [hV];exact (by decide:lf [1] [1]=true)) (by decide:fq [1] 1 2=false) (fun y hy=>by rw [hV,anc.1 hy];exact (by decide:lf [0] [1]=true)) (by decide:(1:Int)≤1) (by decide:(1:Int)≤1) (by rw [hV];exact (by decide:atL [1] 1=2 - 1)) (by decide:(1:Int)≤2) (by decide:(2:Int)≤1048576) hr (by rw [hv,hV];exact (by decide : [2]=lg [1] 1 2)) ha
theorem akl:ve (uX id).rs:=by
 refine ⟨ao7 _ _,fun r hr=> ?_⟩;rw [anc.1 hr];exact ⟨List.Pairwise.nil,fun g hg=>(by cases hg),ao7 _ _,.inr (by simp)⟩
theorem akm:ve (tX id).rs:=by
 refine ⟨ao7 _ _,fun r hr=> ?_⟩;rw [anc.1 hr];refine ⟨ao7 _ _,fun g hg=> ?_,ao7 _ _,.inl (by simp)⟩;rw [anc.1 hg];exact ⟨by simp,ao7 _ _⟩
theorem akn (p:Pl):uc (e1X id) p []=atP p (uX id).rs:=by
 obtain ⟨r,g⟩:=p;by_cases hr:r=nmA
 ·subst hr;cases g with
  | none => rfl
  | some s => simp [uc, atP, zf, m7, e1X, uX]
 ·have hr':¬ nmA=r:=fun h=>hr h.symm
  simp [uc,atP,e1X,uX,hr,hr']
theorem ako (p:Pl):uc (e2X id) p (atP p (uX id).rs)=atP p (tX id).rs:=by
 obtain ⟨r,g⟩:=p;by_cases hr:r=nmA
 ·subst hr;cases g with
  | none => rfl
  | some s =>
   by_cases hs:s=tnV
   ·subst hs;rfl
   ·have hs':¬ tnV=s:=fun h=>hs h.symm
    simp [uc,atP,zf,m7,e2X,tX,uX,hs,hs']
 ·have hr':¬ nmA=r:=fun h=>hr h.symm
  simp [uc,atP,e2X,tX,uX,hr,hr']
theorem nms:∀ e∈ [e1X id] ++ [e2X id],mo (fe e.repo)=(0,0)∧(e.kind=3→po (fe e.tag)=(0,0)):=by
 have h:=Kd;intro e he;rcases anj.1 he with rfl | he
 ·exact ⟨h.1,fun h=>by cases h⟩
 ·rw [anc.1 he];exact ⟨h.1,fun _=>h.2⟩
theorem akp {t:Tb} (hr:ve (t.rs.map Rp.pl)) (hv:t.V = [1]) (ha:∀ p,atP p (t.rs.map Rp.pl)=uc (e1X id) p []) (hw:∀ r∈t.rs,RW r):t.pl=uX id∧TK t∧DK 1 t.rs:=by
 have hrs:t.rs.map Rp.pl=(uX id).rs:=kO hr akl fun p=>(ha p).trans (akn p)
 have hp:t.pl=uX id:=by
  obtain ⟨vv,V,rv,rs⟩:=t;cases hv;exact am7 (TB.mk [1]) hrs
 have hl:t.rs.length=1:=by have:=am7 List.length hrs;rwa [anf] at this
 refine ⟨hp,⟨⟨by rw [hv];decide,by omega,hw⟩,(aai (t:=t.pl) hr hv ha).tok (by decide) (by decide) fun e he=>nms e (an5 _ he)⟩,⟨hr.w,hw,by omega,fun r hr'=> ?_⟩⟩;have h1:r.pl∈(uX id).rs:=by rw [← hrs];exact List.mem_map_of_mem hr'
 have h2:r.pl=⟨nmA,[],[hMX id]⟩:=anc.1 h1;have h3:r.ts = []:=by have:=am7 RP.ts h2;simpa [Rp.pl] using this
 have h4:r.ms = [hMX id]:=am7 RP.ms h2;rw [h3,h4];exact ⟨by decide,aoc _,fun g hg=>(by cases hg)⟩
theorem akq {t u:Tb} (hu:u.pl=uX id) (hr:ve (t.rs.map Rp.pl)) (hv:t.V = [2]) (ha:∀ p,atP p (t.rs.map Rp.pl)=uc (e2X id) p (atP p (u.rs.map Rp.pl))) (hw:∀ r∈t.rs,RW r) :
  (∃ vv rv tv hv mv,t=cA nmA tnV (hTX id) (hMX id) [2] vv rv tv hv mv)∧Tok (tX id):=by
 have hur:u.rs.map Rp.pl=(uX id).rs:=am7 TB.rs hu;rw [hur] at ha;have hrs:t.rs.map Rp.pl=(tX id).rs:=kO hr akm fun p=>(ha p).trans (ako p)
 refine ⟨?_,?_⟩
 ·obtain ⟨vv,V,rv,rs⟩:=t;cases hv
  match rs,hrs with
  | [], h => cases h
  | _ :: _ :: _, h => exact absurd (am7 List.length h) (by simp [tX])
  | [⟨nm, tv, ts, mv, ms⟩], h =>
   have h2:(⟨nm,ts.map Tg.pl,ms⟩:RP)=⟨nmA,[⟨tnV,[hTX id]⟩],[hMX id]⟩:=(List.cons.inj h).1;have h3:nm=nmA:=am7 RP.nm h2;have h4:ms = [hMX id]:=am7 RP.ms h2;have h5:ts.map Tg.pl = [⟨tnV,[hTX id]⟩]:=am7 RP.ts h2;subst h3;subst h4
   match ts,h5 with
   | [], h => cases h
   | _ :: _ :: _, h => exact absurd (am7 List.length h) (by simp)
   | [⟨tn, hv, hs⟩], h =>
    have h6:(⟨tn,hs⟩:TG)=⟨tnV,[hTX id]⟩:=(List.cons.inj h).1;have h7:tn=tnV:=am7 TG.nm h6;have h8:hs = [hTX id]:=am7 TG.hs h6;subst h7;subst h8;exact ⟨vv,rv,tv,hv,mv,rfl⟩
 ·have h1:=am3 (t:=uX id) (t':=tX id) (aai (t:=uX id) akl Z fun p=>(akn p).symm) Z akm Z fun p=>(ako p).symm
  exact h1.tok (by decide) (by decide) nms
theorem akr (hid:idOk id) {vv rv tv hv mv:Value}:TW (cA nmA tnV (hTX id) (hMX id) [2] vv rv tv hv mv):=by
 have n1:(1:Nat)≤1000:=by decide
 refine ⟨(by decide:1≤16),n1,fun r hr=> ?_⟩;rw [anc.1 hr];have hT:bX (hTX id):=⟨(show lm (1,2) by decide),hid⟩;have hM:bX (hMX id):=⟨(show lm (1,1) by decide),hid⟩;refine ⟨n1,n1,fun g hg=> ?_,fun x hx=> ?_,fun g hg x hx=> ?_,n1,fun g hg=> ?_⟩
 ·rw [anc.1 hg];exact n1
 ·rw [anc.1 hx];exact hM
 ·rw [anc.1 hg] at hx;rw [anc.1 (show x∈ [hTX id] from hx)];exact hT
 ·rw [anc.1 hg];exact n1
theorem aks (hid:idOk id) (hk:Tok (tX id)) {vv rv tv hv mv:Value}:TK (cA nmA tnV (hTX id) (hMX id) [2] vv rv tv hv mv):=⟨akr hid,hk⟩
theorem ew1 (hid:idOk id) (dv rv:Value):EW ((e1X id).own dv rv) :=
 ⟨hid,(show lm (1,1) by decide),fun x hx=>by cases anc.1 hx;exact hid,(by show I64 1;unfold I64;omega),fun x hx=>by
  rw [anc.1 (show x∈ [0] from hx)];unfold I64;omega,(by show (1:Nat)≤maxLen;decide),(by show (0:Nat)≤maxLen;decide)⟩
theorem ew2 (hid:idOk id) (dv rv:Value):EW ((e2X id).own dv rv) :=
 ⟨hid,(show lm (1,2) by decide),fun x hx=>by cases anc.1 hx;exact hid,(by show I64 3;unfold I64;omega),fun x hx=>by
  rw [anc.1 (show x∈ [1] from hx)];unfold I64;omega,(by show (1:Nat)≤maxLen;decide),(by show (1:Nat)≤maxLen;decide)⟩
theorem tk0 {vv rv:Value}:TK (⟨vv,[0],rv,[]⟩:Tb):=⟨⟨by show (1:Nat)≤16;decide,anq _,fun r hr=>(by cases hr)⟩,akk.tok (by decide) (by decide) fun e he=>(by cases he)⟩
theorem dk0:DK 1 ([]:List Rp):=⟨⟨List.Pairwise.nil,fun r hr=>(by cases hr)⟩,fun r hr=>(by cases hr),anq _,fun r hr=>(by cases hr)⟩
end

section
variable {b:World} {F:List SP}
theorem akt {A:Option Addr} {c:Nat} {f:Value}:SC Tryz.prog rz [.slice A 1 c,f] b F (fun _ F'=>F'=F):=by
 have hpd:∀ {u:Value},SC Tryz.prog u3 [.slice A 1 c,ii 0,ii 1,u,f] b F (fun _ F'=>F'=F):=by
  intro u;refine aw Tryz.func252 Z Z Z <| akw <| ae Z <| aan <| ae Z <| akv <| am <| dt (S:=Unit) (fun _=> [(0,.slice A 1 c),(1,ii 0),(2,ii 1),(4,f)]) (fun _=>F) (fun _=>True) (fun _=>0) () ax trivial ?_;intro _ _;refine am <| akw <| am4 Z Z <| az Z <| ae Z <| akv <| ad <| akw <| am4 Z Z <| akv <| ao Z <| akw <| am5 Z Z Z <| ae Z ?_;have his:SC Tryz.prog qp [.slice A 1 c,ii 0,ii 1,f] b F (fun _ F'=>F'=F):=by
   refine aw Tryz.func286 Z Z Z <| akw <| ae Z <| az Z <| ae Z <| akv <| am <| dt (S:=Unit) (fun _=> [(0,.slice A 1 c),(1,ii 0),(2,ii 1),(3,f),(8,ii 1)]) (fun _=>F) (fun _=>True) (fun _=>0) () ax trivial ?_;intro _ _;refine ad <| akw <| am5 Z Z Z <| akv <| aj Z <| bz <| au <| av <| ap <| jb Z .nil ax ?_
   rfl
  refine bf Z Z Z (his) ?_;rintro _ _ rfl;refine akv <| ai <| ag <| al <| cd <| al <| fw Z .nil ax ?_
  rfl
 refine aw Tryz.func183 Z Z Z <| akw <| am5 Z Z Z <| akv <| aa <| am5 Z Z Z <| ae Z <| bm 10 (.int .u64 ((1:Nat):Int)) Z (am7 (Value.int .u64) (Qj (n:=1) (by omega))) <| bf Z Z Z (H8 (n:=1) (by omega)) ?_;rintro u _ ⟨rfl⟩;refine ae Z <| bf Z Z Z (hpd) ?_;rintro _ _ rfl;refine ac <| jb Z .nil ax ?_
 rfl
variable {h:Hd}
theorem Mn {v:Value} (hk:bX h) (hv:∀ w,Sat b F w→SL w 34 v 1 (wx [h])):SC Tryz.prog pX [v] b F (fun u F'=>F'=rD u [h.id]::F):=by
 have hi:idOk h.id:=hk.id;have xl:(hdC h).length=34:=mu hi.1;refine aw Tryz.func96 Z Z Z <| bu (fun w H=>cp (hv w H)) ?_;rintro ⟨A,c,rfl,_,_,_,h4,_⟩;obtain ⟨gg,oo,rfl⟩:=h4 (by omega);have hcr:∀ w,Sat b F w→∀ j,j<34→w.cell? ⟨gg,oo+0*34+j,none⟩=(hdC h)[j]?:=fun w H j hj=>fb (l:= [h]) (hv w H) (fun x hx=>by rw [anc.1 hx];exact xl) (Nat.lt_succ_self 0) hj
 refine akw <| ae Z <| aan <| yo (fun a:List Int=> .agg ⟨a.map (Value.int .u8)⟩) idOk Z Z Z fun gm=>ae Z <| aan <| ae Z <| akv <| ad <| akw <| am5 Z Z Z <| akv <| am <| dt (S:=Option Value) (fun q=> [(0,.slice (some ⟨gg,oo,none⟩) 1 c),(3,.map (some gm)),(4,match q with | none=> .slice none 0 0 | some u=>u),(10,.slice (some ⟨gg,oo,none⟩) 1 c),(11,ii 1),(12,ii (match q with | none=>0 | some _=>1))]) (fun q=>match q with | none=>mp gm (fun a:List Int=> .agg ⟨a.map (Value.int .u8)⟩) idOk []::F | some u=>rD u [h.id]::F) (fun _=>True) (fun q=>match q with | none=>1 | some _=>0) none ax trivial ?_
 rintro (_ | u) _
 ·dsimp only;refine akw <| ae Z <| akv <| ad <| ao Z <| ak <| ab <| ad <| am <| akw <| az Z ?_;refine fc Z (fun w H=>cg (cs:=hdC h) Z Z Z xl (fun j hj=>by rw [xl] at hj;exact hcr w (H.ent (af 1 [] Z)) j hj)) Z ?_;refine db Z Z Z Z Z fun g6=> ?_;refine fh 0 Z Z Z Z Z Z Z xl (rg h) (by rw [xl];rfl) ?_;refine aan <| am4 Z Z <| du 0 Z Z Z Z Z Z (uU hi.1) Z ?_
  skip
  refine lF 1 N6 hi Z Z Z Z Z Z Z Z Z <| am5 Z Z Z <| db Z Z Z Z Z fun g7=> ?_;refine fh 0 Z Z Z Z Z Z Z Z (fun u hu=>by cases hu) Z ?_;refine ae Z <| aan <| am4 Z Z <| akv <| ao Z <| akw <| am4 Z Z <| du 1 Z Z Z Z Z Z (uU hi.1) Z <| ae Z <| Gb 2 N6 hi Z Z Z Z Z Z Z Z <| akv <| aa <| am4 Z Z <| du 1 Z Z Z Z Z Z (uU hi.1) Z ?_;have ul:(u8s h.id).length=32:=by rw [dr,hi.1]
  refine lr Z Z Z Z Z Z Z ul (by decide) fun gl=>eo (df t_api_ID 32 Z) <| ef 0 Z Z Z Z Z Z Z Z Z (m:=1) (news:=u8s h.id) (fun w' H=>(H.blk (k:=1) Z).sl ul (by decide)) (ib _) (by omega) (fun _=>rfl) fun v8=>ae Z <| ac <| bh <| ab <| aa <| az Z <| ae Z <| ac ?_
  have ei:ig [h.id]=u8s h.id:=by simp [ig]
  refine cw (some v8) (by show Ent _ (rD v8 [h.id]::F);rw [rD,ei];exact af 5 [0] Z) trivial
 ·dsimp only;refine bu (fun w H=>(H.oat (k:=0) Z).form) ?_;rintro ⟨A9,c9,rfl,_,_,_⟩;refine akw <| ae Z <| akv <| ad <| aj Z <| bz <| au <| av <| ap <| ab <| akw <| ae Z <| bf Z Z Z (akt (A:=A9) (c:=c9)) ?_;rintro _ _ rfl;refine aan <| am4 Z Z <| akv <| ai <| ar Z Z ax ?_
  rfl
end
section
variable {b:World} {F:List SP} {nm tn:ByteArray} {hT hM:Hd} {V:List Int} {vv rv tv hv mv:Value}
theorem Vm {r:Rp} {g:Nat}:SC Tryz.prog sV [.agg ⟨rpC r⟩,pp g] b (pt g jv [.string r.nm]::F) (fun u F'=>u = .bool true∧F'=pt g jv [.string r.nm]::F):=by
 refine aw Tryz.func253 Z Z Z <| akw <| bx Z Z Z Z Z fun g2=>ae Z <| aan <| ae Z <| bt 0 Z Z Z <| bt 1 Z Z Z <| am4 Z Z <| akv <| ai <| ar Z Z (af 1 [] Z) ?_
 exact ⟨am7 Value.bool (ani Z),rfl⟩
theorem aaj {f:Nat} [Bodied Tryz.prog f] {r:Rp} {va:Value} {post:List Value} (ha:∀ w,Sat b F w→SL w 3 va 1 (oq [r])) (hc:SC Tryz.prog f ([.agg ⟨rpC r⟩]++post) b F (fun u F'=>u = .bool true∧F'=F)):SC Tryz.prog iw [va,.func (.func f) ⟨[]⟩ ⟨post⟩] b F (fun u F'=>u=ii 0∧F'=F):=by
 refine aw Tryz.func230 Z Z Z <| bu (fun w H=>cp (ha w H)) ?_;rintro ⟨A,c,rfl,_,_,_,h4,_⟩;obtain ⟨gg,oo,rfl⟩:=h4 (by omega);have hcr:∀ w,Sat b F w→∀ j,j<3→w.cell? ⟨gg,oo+0*3+j,none⟩=(rpC r)[j]?:=fun w H j hj=>fb (l:= [r]) (f:=rpC) (ha w H) (fun x hx=>by rw [anc.1 hx];rfl) (Nat.lt_succ_self 0) hj
 refine akw <| ae Z <| akv <| ad <| akw <| am5 Z Z Z <| akv <| am <| dt (S:=Unit) (fun _=> [(0,.slice (some ⟨gg,oo,none⟩) 1 c),(1,.func (.func f) ⟨[]⟩ ⟨post⟩),(7,ii 1),(8,ii 0)]) (fun _=>F) (fun _=>True) (fun _=>0) () ax trivial ?_;rintro _ _;refine akw <| ae Z <| akv <| ad <| ao Z <| ak <| ab <| ad <| am <| akw <| am4 Z Z <| aan <| am5 Z Z Z <| az Z <| fc Z (fun w H=>cg (cs:=rpC r) Z Z Z Z (fun j hj=>hcr w H j hj)) Z <| bg Z Z Z (hc) <| akv <| ao Z <| akw <| am4 Z Z <| akv <| ai <| al <| ag <| cd <| al <| ag <| ar Z Z ax ?_;exact ⟨rfl,rfl⟩
theorem aak (hT':∀ w,Sat b F w→TR w (cA nm tn hT hM V vv rv tv hv mv)):SC Tryz.prog zO [tbV (cA nm tn hT hM V vv rv tv hv mv),.string nm] b F (fun u F'=>u = .agg ⟨rpC (vH nm tn hT hM tv hv mv)⟩∧F'=F):=by
 have hr:∀ w,Sat b F w→SL w 3 rv 1 (oq [vH nm tn hT hM tv hv mv]):=fun w H=>(hT' w H).r
 have hf:∀ w,Sat b F w→(∃ A n c,tv = .slice A n c)∧∃ A n c,mv = .slice A n c:=fun w H=>by
  have h:=(hT' w H).rr _ (anc.2 Z);obtain ⟨A,c,h1,_⟩:=cp h.t;obtain ⟨B,d,h2,_⟩:=cp h.m;exact ⟨⟨_,_,_,h1⟩,_,_,_,h2⟩
 refine aw Tryz.func184 Z Z Z <| bu hf ?_;rintro ⟨⟨B1,m1,c1,rfl⟩,B2,m2,c2,rfl⟩;refine bu (fun w H=>cp (hr w H)) ?_;rintro ⟨A,c,rfl,_,_,_,h4,_⟩;obtain ⟨gg,oo,rfl⟩:=h4 (by omega);have hcr:∀ w,Sat b F w→∀ j,j<3→w.cell? ⟨gg,oo+0*3+j,none⟩=(rpC (vH nm tn hT hM (.slice B1 m1 c1) hv (.slice B2 m2 c2)))[j]?:=fun w H j hj=>fb (l:= [vH nm tn hT hM (.slice B1 m1 c1) hv (.slice B2 m2 c2)]) (f:=rpC) (hr w H) (fun x hx=>by rw [anc.1 hx];rfl) (Nat.lt_succ_self 0) hj
 refine akw <| bx Z Z Z Z Z fun g2=>bx Z Z Z Z Z fun g3=>db Z Z Z Z Z fun g4=>akv <| ad <| akw <| ae Z <| bt 2 Z Z Z <| ae Z <| bg Z Z Z (aaj (up hr (af 3 [] Z)) ((Vm (r:=vH nm tn hT hM (.slice B1 m1 c1) hv (.slice B2 m2 c2)) (g:=g3)).at (af 3 [1,0,2] Z) (af 3 [1,0,2] Z))) <| ae Z <| aan <| am4 Z Z <| akv <| ao Z <| akw <| ae Z <| bt 2 Z Z Z <| ae Z <| az Z <| fc Z (fun w H=>cg (cs:=rpC (vH nm tn hT hM (.slice B1 m1 c1) hv (.slice B2 m2 c2))) Z Z Z Z (fun j hj=>hcr w (H.ent (af 3 [] Z)) j hj)) Z <| eu 0 Z Z Z Z <| akv <| ai <| ag <| fw Z (.whole 0 Z Z Z Z Z .nil) (af 3 [] Z) ?_
 exact ⟨rfl,rfl⟩
theorem aal (hk:bX hT) (hT':∀ w,Sat b F w→TR w (cA nm tn hT hM V vv rv tv hv mv)):SC Tryz.prog zK [tbV (cA nm tn hT hM V vv rv tv hv mv),.string nm,.string tn] b F (fun u F'=>F'=rHs u [hT]::F):=by
 have hr:∀ w,Sat b F w→SL w 2 tv 1 (dE [(⟨tn,hv,[hT]⟩:Tg)]):=fun w H=>((hT' w H).rr _ (anc.2 Z)).t
 have hh:∀ w,Sat b F w→SL w 34 hv 1 (wx [hT]):=fun w H=>((hT' w H).rr _ (anc.2 Z)).g _ (anc.2 Z)
 refine aw Tryz.func97 Z Z Z <| bu (fun w H=>cp (hr w H)) ?_;rintro ⟨A,c,rfl,_,_,_,h4,_⟩;refine bu (fun w H=>cp (hh w H)) ?_;rintro ⟨A2,c2,rfl,_⟩;obtain ⟨gg,oo,rfl⟩:=h4 (by omega);have hcr:∀ w,Sat b F w→∀ j,j<2→w.cell? ⟨gg,oo+0*2+j,none⟩=(tgC ⟨tn,.slice A2 1 c2,[hT]⟩)[j]?:=fun w H j hj=>fb (l:= [(⟨tn,.slice A2 1 c2,[hT]⟩:Tg)]) (f:=tgC) (hr w H) (fun x hx=>by rw [anc.1 hx];rfl) (Nat.lt_succ_self 0) hj
 refine akw <| bx Z Z Z Z Z fun g3=>ae Z <| akv <| ad <| akw <| bt 0 Z Z Z <| ae Z <| bg Z Z Z (aak (nm:=nm) (tn:=tn) (hT:=hT) (hM:=hM) (V:=V) (vv:=vv) (rv:=rv) (tv:= .slice (some ⟨gg,oo,none⟩) 1 c) (hv:= .slice A2 1 c2) (mv:=mv) (up hT' (af 1 [] Z))) <| nq Z (No Z Z Z Z Z Z Z) Z <| am4 Z Z <| akv <| am <| dt (S:=Unit) (fun _=> [(2,.string tn),(12,.slice (some ⟨gg,oo,none⟩) 1 c),(13,ii 1),(14,ii 0)]) (fun _=>F) (fun _=>True) (fun _=>0) () (af 1 [] Z) trivial ?_
 rintro _ _;refine akw <| ae Z <| akv <| ad <| ao Z <| ak <| ab <| ad <| am <| akw <| az Z <| fc Z (fun w H=>cg (cs:=tgC ⟨tn,.slice A2 1 c2,[hT]⟩) Z Z Z Z (fun j hj=>hcr w H j hj)) Z <| db Z Z Z Z Z fun g8=>eu 0 Z Z Z Z <| aan <| ae Z <| bt 0 Z Z Z <| am4 Z Z <| akv <| dK 21 Z Z <| ao Z <| akw <| ae Z <| bt 0 Z Z Z ?_
 refine bf Z Z Z (mZ (l:= [hT]) (fun w H=>hh w (H.ent (af 1 [] Z))) (fun d _=>rg d) (show 1≤1000000 by decide)) ?_;rintro u _ rfl;refine ae Z <| akv <| ai <| al <| ag <| cd <| al <| ag <| ar Z Z (af 2 [0] Z) ?_
 rfl
theorem aku (hk:bX hT) (hT':∀ w,Sat b F w→TR w (cA nm tn hT hM V vv rv tv hv mv)):SC Tryz.prog pL [tbV (cA nm tn hT hM V vv rv tv hv mv),.string nm,.string tn] b F (fun u F'=>F'=rD u [hT.id]::F):=by
 refine aw Tryz.func27 Z Z Z <| akw <| bx Z Z Z Z Z fun g3=>ae Z <| aan <| bt 0 Z Z Z <| am4 Z Z <| bf Z Z Z (aal hk (nm:=nm) (tn:=tn) (hT:=hT) (hM:=hM) (V:=V) (vv:=vv) (rv:=rv) (tv:=tv) (hv:=hv) (mv:=mv) (up hT' (af 1 [] Z))) ?_
 rintro v _ rfl
 skip
 refine bf Z Z Z (Mn hk (fun w H=>(H.oat (k:=0) Z).sl)) ?_;rintro u _ rfl;refine ae Z <| akv <| ai <| ar Z Z (af 3 [0] Z) ?_
 rfl
end

section
variable {b:World} {F:List SP}
theorem Nxt.mv {V:List Int} {e:Ev} (h:Nxt V e) (dv rv:Value):Nxt V (e.own dv rv):=⟨h.r1,h.r2,h.n1,h.n2,h.new,h.dl,h.dn,h.nx,h.le,h.own,h.k,h.repo,h.tag⟩
theorem Xn {e:Ev} {dv rv:Value} {j k:Nat} (hj:nth F j=some (rZ dv e.deps)) (hk:nth F k=some (rD rv e.refs)):∀ w,Sat b F w→ER w (e.own dv rv):=fun w H=>⟨vlZ hj w H,(H.oat hk).sl⟩
theorem Vn:SC Tryz.prog iG [] b F (fun u F'=>u = .bool true∧F'=F):=by
 obtain ⟨id,B,hX,hOf⟩:∃ id B,WX id B∧∀ {F':List SP} {vb:Value},(∀ w,Sat b F' w→VL (Value.int .u8) w vb [120])→SC Tryz.prog xK [vb] b F' (fun v G=>v=idV id∧G=F'):=⟨idL,bL,akj,fun h=>by rw [← aki];exact Wm (by decide) h⟩;have hid:=hX.ok;have h32:=hid.1;have ul:(u8s id).length=32:=by rw [dr,h32]
 refine aw Tryz.func4 Z Z Z <| akw <| ae Z <| aan <| bf Z Z Z (Q3 (n:=1) (by decide) (by decide)) ?_;rintro _ _ ⟨vv,rfl,rfl⟩;refine b9 (fun w H=>(H.oat (k:=0) Z).form) ?_;rintro ⟨Av,cv,rfl,_⟩;refine am5 Z Z Z <| db Z Z Z Z Z fun g1=>eu 0 Z Z Z Z <| ae Z <| aan <| ql ([120].map (Value.int .u8)) Z Z Z Z Z Z Z Z Z fun gl=>R9 0 Z Z Z Z Z Z Z Z ?_
 skip
 refine bg Z Z Z (hOf (fun w H=>H.ptz_vl (k:=0) Z Z (aoc _) (by omega) (fun j hj=>rfl))) ?_
 skip
 refine db Z Z Z Z Z fun g3=> ?_;refine fh 0 Z Z Z Z Z Z Z (by rw [dr,h32];rfl) (ib _) (by simp [h32]) ?_;refine aan <| bt 2 Z Z Z <| ae Z <| ql (bM [0]) Z Z Z Z Z Z Z Z Z fun gd=>du 1 Z Z Z Z Z Z (ll h32) Z <| du 1 Z Z Z Z Z Z (ll h32) Z <| lr Z Z Z Z Z Z Z ul (by decide) fun gr=>Sk Z Z Z ⟨rfl,rfl,rfl,rfl,ul,rfl,trivial⟩ <| bm 24 (evV ((e1X id).own (.slice (some ⟨gd,0,none⟩) 1 1) (.slice (some ⟨gr,0,none⟩) 1 1))) Z Z <| eo (kt (t:=t_api_ID) (sz:=32) (n:=1) (v:= .slice (some ⟨gr,0,none⟩) 1 1) Z ul (by decide) 0 Z Z) ?_
 refine eo (Jh (l:= [id]) 0 Z Z (by simp [ig]) Z) ?_;refine eo (kt (t:=fd) (sz:=1) (n:=1) (v:= .slice (some ⟨gd,0,none⟩) 1 1) Z Z (by decide) 1 Z Z) <| eo (df bi 3 Z) <| eo (eg (G:= [])) ?_;refine bf Z Z Z (Bh (k:=1) (t:=⟨.slice Av 1 cv,[0],.slice none 0 0,[]⟩) (e:=(e1X id).own (.slice (some ⟨gd,0,none⟩) 1 1) (.slice (some ⟨gr,0,none⟩) 1 1)) tk0 dk0 (by decide) (am1.mv _ _) (ew1 hid _ _) (show 1≤1000 by decide) (show 0≤1000 by decide) (fun p x hx=>by cases hx) (aI (i:=7) (j:=1) (k:=0) Z Z Z) (Xn (e:=e1X id) (j:=3) (k:=2) Z Z)) ?_;rintro _ _ ⟨t1,rfl,hV1,hr1,ha1,hw1,hn1,rfl⟩;obtain ⟨hp1,tk1,dk1⟩:=akp (id:=id) hr1 hV1 ha1 hw1;have ti1':=aai (id:=id) (t:=t1.pl) hr1 hV1 ha1;refine b9 (fun w H=>oZ (aI (t:=t1) (i:=0) (j:=1) (k:=2) Z Z Z w H)) fun hone1=> ?_;have hfr:∀ p,∀ x∈atP p (t1.rs.map Rp.pl),x.d≠(1,2):=fun p x hx h=>by
  have h1:fq t1.V x.d.1 x.d.2=true:=ti1'.dots hx;rw [h,hV1] at h1;cases h1.symm.trans (by decide:fq (wc [0] 1 1) 1 2=false)
 refine eo (eg (G:=tbP t1)) <| eo (af 9 [7,5,0] Z) <| am5 Z Z Z <| fh 0 Z Z Z Z Z Z Z Z hone1 Z <| ae Z <| aan <| bt 0 Z Z Z <| ae Z <| ql (bM [1]) Z Z Z Z Z Z Z Z Z fun gd2=>du 2 Z Z Z Z Z Z (ll h32) Z <| du 2 Z Z Z Z Z Z (ll h32) Z <| lr Z Z Z Z Z Z Z ul (by decide) fun gr2=>Sk Z Z Z ⟨rfl,rfl,rfl,rfl,rfl,ul,rfl,trivial⟩ <| bm 35 (evV ((e2X id).own (.slice (some ⟨gd2,0,none⟩) 1 1) (.slice (some ⟨gr2,0,none⟩) 1 1))) Z Z <| eo (kt (t:=t_api_ID) (sz:=32) (n:=1) (v:= .slice (some ⟨gr2,0,none⟩) 1 1) Z ul (by decide) 0 Z Z) ?_
 refine eo (Jh (l:= [id]) 0 Z Z (by simp [ig]) Z) ?_;refine eo (kt (t:=fd) (sz:=1) (n:=1) (v:= .slice (some ⟨gd2,0,none⟩) 1 1) Z Z (by decide) 1 Z Z) ?_;refine bf Z Z Z (Bh (k:=1) (t:=t1) (e:=(e2X id).own (.slice (some ⟨gd2,0,none⟩) 1 1) (.slice (some ⟨gr2,0,none⟩) 1 1)) tk1 dk1 (by decide) (by rw [hV1];exact am2.mv _ _) (ew2 hid _ _) (show 1≤1000 by decide) (show 1≤1000 by decide) hfr (rh (k:=4) Z) (Xn (e:=e2X id) (j:=1) (k:=0) Z Z)) ?_;rintro _ _ ⟨t2,rfl,hV2,hr2,ha2,hw2,hn2,rfl⟩;rw [hV1] at hV2;obtain ⟨⟨vv2,rv2,tv2,hv2,mv2,rfl⟩,hTok⟩:=akq (id:=id) hp1 hr2 hV2 ha2 hw2;have tk2:∀ vv rv tv hv mv,TK (cA nmA tnV (hTX id) (hMX id) [2] vv rv tv hv mv):=fun _ _ _ _ _=>aks hid hTok
 clear ha1 ha2 hw1 hw2 hr1 hr2 hV2 hn1 hn2 hfr;refine b9 (fun w H=>oZ (aI (t:=cA nmA tnV (hTX id) (hMX id) [2] vv2 rv2 tv2 hv2 mv2) (i:=0) (j:=1) (k:=2) Z Z Z w H)) fun hone2=> ?_;generalize ht2:cA nmA tnV (hTX id) (hMX id) [2] vv2 rv2 tv2 hv2 mv2=t2 at hone2 ⊢;have tkt:TK t2:=by rw [← ht2];exact tk2 _ _ _ _ _
 have hpl:t2.pl=tX id:=by rw [← ht2];rfl
 refine eo (eg (G:=tbP t2)) <| eo (af 6 [3,4,0] Z) <| am5 Z Z Z <| fh 0 Z Z Z Z Z Z Z Z hone2 Z <| ae Z <| aan <| bt 0 Z Z Z ?_;have hwd:mM (enS (tbQ t2.pl))=(B,0):=by rw [hpl,hX.enc];rfl
 have hen:=Ri (b:=b) (F:=pt g1 bj (tbC t2)::pt g3 t_api_ID (u8s id)::all (tbP t2)::F) tkt (rh (k:=2) Z) (by rw [hpl,hX.enc];show B.length≤_;rw [hX.ln];decide);rw [hwd] at hen;refine bf Z Z Z (hen) ?_;rintro _ _ ⟨r,rfl,rfl⟩
 (iterate 5 refine ae Z ?_)
 refine aan <| ae Z ?_;have bl:B.length≤1000000:=by rw [hX.ln];decide
 refine bf Z Z Z (Rk (B:=B) (V:= [2]) (j:=2) (i1:=5) (i2:=8) (i3:=43) (hT:=hTX id) (hM:=hMX id) (nm:=nmA) (tn:=tnV) (fun w H=>(H.oat (k:=0) Z).sl) bl hX.bo (by rw [hX.ln];decide) hX.rV hX.rj (by rw [hX.ln];decide) hX.rx hX.rm (by rw [hX.ln];decide) hX.rt hX.hT hX.hM tk2) ?_;rintro _ _ ⟨vv3,rv3,tv3,hv3,mv3,rfl,rfl⟩;refine b9 (fun w H=>oZ (aI (t:=cA nmA tnV (hTX id) (hMX id) [2] vv3 rv3 tv3 hv3 mv3) (i:=0) (j:=1) (k:=2) Z Z Z w H)) fun hone3=> ?_;generalize ht3:cA nmA tnV (hTX id) (hMX id) [2] vv3 rv3 tv3 hv3 mv3=t3 at hone3 ⊢;have tkt3:TK t3:=by rw [← ht3];exact tk2 _ _ _ _ _
 have hpl3:t3.pl=t2.pl:=by rw [hpl,← ht3];rfl
 refine eo (eg (G:=tbP t3)) <| eo (af 5 [2,3,4,0] Z) <| am5 Z Z Z <| db Z Z Z Z Z fun g8=>db Z Z Z Z Z fun g9=> ?_;refine fh 1 Z Z Z Z Z Z Z Z hone3 Z <| eu 0 Z Z Z Z <| akv <| ad ?_;refine w9 flo 37 _ (by kernel_rfl) Z ax ?_;refine nu 0 22 (by kernel_rfl) Z ?_
 (iterate 15 refine ay Z Zl ?_)
 refine cl 0 Z Z Z Z <| ay Z Zl <| dM Z (jM Z Z (mq 0 0 0 0)) Z Z ?_;refine cz 66 (.bool true) Z (by rw [ani ⟨rfl,rfl⟩]) ?_;refine ay Z Zl <| ay Z Zl <| cl 1 Z Z Z Z <| cl 2 Z Z Z Z <| dh (v:= .bool true) Z Z Z Z (gK hpl3 tkt3.w tkt.w (rh (k:=5) Z) (rh (k:=4) Z)) ax <| aq <| io ax ?_;have hk:bX (hTX id):=⟨(show lm (1,2) by decide),hid⟩;have e2:ig [id]=u8s id:=by simp [ig]
 have hGet:∀ {F':List SP},(∀ w,Sat b F' w→TR w t2)→SC Tryz.prog pL [tbV t2,.string nmA,.string tnV] b F' (fun u G=>G=rD u [id]::F'):=fun {F'} h=>by
  have h':=aku (b:=b) (F:=F') (nm:=nmA) (tn:=tnV) (hT:=hTX id) (hM:=hMX id) (V:= [2]) (vv:=vv2) (rv:=rv2) (tv:=tv2) (hv:=hv2) (mv:=mv2) hk (by rw [ht2];exact h);rwa [ht2] at h'
 refine q8 (T:=Value × Nat) 34 (List.range' 29 8) (fun s=> [(3,pp g3),(73,.bool true),(75,s.1),(77,.slice (some ⟨s.2,0,none⟩) 1 1)])
  (fun s=>pt s.2 t_api_ID (u8s id)::rD s.1 [id]::pt g9 t_api_Fault [ii 0,ii 0]::pt g8 bj (tbC t3)::pt g1 bj (tbC t2)::pt g3 t_api_ID (u8s id)::all (tbP t2)::all (tbP t3)::F) (fun _=>True) ?_ (fun J=> ?_)
 ·rintro ⟨u,gi⟩ _;dsimp only;refine nu 29 0 (by kernel_rfl) Z ?_;refine dh (v:= .bool true) Z Z Z Z (Li (l:= [id]) (fun w H=>(H.oat (k:=1) Z).sl) (fun w H=>by rw [e2];exact (H.blk (k:=0) Z).sl ul (by decide)) (fun x hx=>by rw [anc.1 hx];exact h32) (show 1≤1000000 by decide)) (af 2 [] Z) ?_;refine aq <| io (af 2 [] Z) ?_;refine yq 30 7 (by kernel_rfl) (by kernel_rfl) Z ?_;refine ay Z Zl <| ay Z Zl <| js 3 Z Z Z Z Z Z (ll h32) Z Z <| ay Z Zl <| dM Z (F5 (as00:=id) (bs:=List.replicate 32 0) Z Z h32 Z) Z Z ?_;refine cz 83 (.bool true) Z (by rw [ans hX.nz];rfl) ?_;refine ay Z Zl <| ay Z Zl <| aq <| ab <| ai <| ar Z Z (af 8 [] Z) ?_;exact ⟨rfl,rfl⟩
 ·refine pg (26,[23,24,25]) [(28,[23,24,27])] (by kernel_rfl) ⟨?_,?_,trivial⟩
  ·refine xa 23 3 Z Z Z <| ay Z Zl <| ay Z Zl <| cl 2 Z Z Z Z <| d9 Z Z Z Z (hGet (rh (k:=4) Z)) ?_;rintro u _ rfl;refine ⟨af 1 [] rfl,(aq <| io (af 1 [] Z) ?_)⟩;refine nu 27 1 (by kernel_rfl) Z ?_;refine js 3 Z Z Z Z Z Z (ll h32) Z Z <| gS (cs:=u8s id) Z Z Z Z Z Z Z Z ul (by decide) (af 1 [] Z) fun gi=>aq <| io (af 2 [] Z) ?_
   exact J (u,gi) _ _ _ trivial (by kernel_rfl) ⟨rfl,rfl,rfl,rfl,trivial⟩ ax
  ·refine jm 23 2 (L2:= [27]) Z Z <| ay Z Zl <| ay Z Zl <| aq <| s0 ax <| xa 27 1 Z Z Z <| js 3 Z Z Z Z Z Z (ll h32) Z Z <| gS (cs:=u8s id) Z Z Z Z Z Z Z Z ul (by decide) ax fun gi=>aq <| io (af 1 [] Z) ?_
   refine nu 25 1 (by kernel_rfl) Z ?_;refine cl 2 Z Z Z Z <| d9 Z Z Z Z (hGet (rh (k:=5) Z)) ?_;rintro u _ rfl;refine ⟨af 2 [] rfl,(aq <| io (af 2 [] Z) ?_)⟩;exact J (u,gi) _ _ _ trivial (by kernel_rfl) ⟨rfl,rfl,rfl,rfl,trivial⟩ (af 2 [1,0] Z)
end

abbrev rfs (l:List Ev):List (List Int):=l.flatMap fun e=>e.refs
theorem Fe (l:List Ev) (e:Ev):rfs (l ++ [e])=rfs l++e.refs:=by simp [rfs]
theorem Vo {l:List Ev} {m:Nat} (h:∀ e∈l,e.refs.length≤m):(rfs l).length≤m*l.length:=by
 induction l with
 | nil => simp [rfs]
 | cons e l ih =>
  have h1:=h e anl;have h2:=ih fun x hx=>h x (ank _ hx)
  simp only [rfs,List.flatMap_cons,am9,anp] at h2 ⊢;rw [Nat.mul_succ];omega
structure TS where
 i:Nat
 V:List Int
 L:List Wn
 C:CL
 X:BL
 out:List Ev
 t:Tb
structure TSI (l:List Ev) (m:Nat) (wd:Int) (no:Nat) (s:TS):Prop where
 i:s.i≤no+2*l.length
 li:LI m wd l (rfs l) (min (s.i - no) l.length) s.V s.L s.C s.X s.out
 rd:n9 s.V s.L s.C = []
 tq:TQ l m s.V s.out s.t
theorem Rl {l:List Ev} {m:Nat} (h1:1≤m) (h2:m≤16) (vv:Value):TQ l m (List.replicate m 0) [] ⟨vv,List.replicate m 0,.slice none 0 0,[]⟩:=by
 refine ⟨⟨⟨List.Pairwise.nil,fun r hr=>(by cases hr)⟩,apr,fun x hx=> ?_,fun p x=> ?_,fun e he=>(by cases he),ard⟩,rfl,⟨by show (List.replicate m 0).length≤16;rw [apr];exact h2,anq _,fun r hr=>(by cases hr)⟩,fun y hy=>(by cases hy),fun y hy=>(by cases hy)⟩
 ·have hx':x∈List.replicate m (0:Int):=hx;rw [List.eq_of_mem_replicate hx'];decide
 ·constructor
  ·intro h;cases h
  ·rintro ⟨y,hy,_⟩;cases hy
def Fnd (bs:List (List Int)) (wd:Int) (x:List Int):Prop:=∃ xs∈bs,wv (we xs) wd=x
theorem vI {W:World} {v vb vo:Value} {l:List Ev} {bs:List (List Int)} {n wd:Int} {ord:List Int} (h:EAs W v l) (hb:LB W vb bs) (ho:VL (Value.int .i64) W vo ord) (hn:I64 n) (hwd:I64 wd):Calls Tryz.prog aQ #[v,vb,ii n,ii wd,vo] W (fun e w'=>e = .returned (.bool true)∧Ext W w'):=by
 refine X9 (args:= [v,vb,ii n,ii wd,vo]) ?_;unfold I64 at hn hwd;have hl:∀ {F:List SP} {k:Nat},nth F k=some (Is W)→∀ w,Sat W F w→EL w v l:=fun hk w H=>h.el.ext (H.is hk)
 have h32:∀ e∈l,e.id.length=32:=fun e he=>(h.ew e he).l32
 obtain ⟨A0,c0,rfl,_,_,_,k4,_⟩:=cp h.el.sl;obtain ⟨Ao,co,rfl,p1,p2,p3,p4⟩:=ho.form;obtain ⟨Ab,cb,rfl,_⟩:=hb.get;refine aw Tryz.func3 Z Z Z <| akw <| ae Z <| aan <| bg Z Z Z (Vn) <| ae Z <| akv <| ad <| akw <| ae Z <| bf Z Z Z (Ad (hl (k:=0) Z) h32 (by decide)) ?_;rintro _ _ ⟨q,hq,rfl,rfl⟩;cases q with
 | true =>
  (iterate 23 refine ae Z ?_)
  refine akv <| ao Z <| akw <| am4 Z Z <| akv <| ai <| ag <| ar Z Z ax ?_;exact ⟨rfl,rfl⟩
 | false =>
 obtain ⟨hl12',hla⟩:=hq Z;have hl12:l.length≤12:=hl12';refine am4 Z Z ?_;refine bf Z Z Z (Ed hb Z (by unfold I64;omega) (by unfold I64;omega)) ?_;rintro _ _ ⟨q2,hq2,rfl,rfl⟩;cases q2 with
 | true =>
  (iterate 20 refine ae Z ?_)
  refine akv <| ao Z <| akw <| am4 Z Z <| akv <| ai <| ag <| ar Z Z ax ?_;exact ⟨rfl,rfl⟩
 | false =>
 obtain ⟨hb20,hb60⟩:=hq2 Z
 (iterate 7 refine ae Z ?_)
 by_cases ho60:ord.length≤60;rotate_left
 ·refine wz 56 Z ?_
  (iterate 13 refine ae Z ?_)
  refine akv <| ao Z <| akw <| am4 Z Z <| akv <| ai <| ag <| ar Z Z ax ?_;exact ⟨rfl,rfl⟩
 refine px 56 Z <| am4 Z Z ?_;refine bf Z Z Z (E6 (z:=n) hn (hl (k:=0) Z) h.ew (fun e he=>by have:=(hla e he).1;omega) (by omega)) ?_;rintro _ _ ⟨r,rfl,hr,rfl⟩;by_cases hr0:r=0;rotate_left
 ·refine bm 59 (ii r) Z Z <| am5 Z Z Z ?_;refine bm 62 (.bool true) Z (by
   show Value.bool (!decide _)=_;rw [ans hr0];rfl) ?_
  (iterate 7 refine ae Z ?_)
  refine akv <| ao Z <| akw <| am4 Z Z <| akv <| ai <| ag <| ar Z Z ax ?_;exact ⟨rfl,rfl⟩
 subst hr0;obtain ⟨m,rfl,_,hG⟩:=hr.1 Z
 (iterate 7 refine ae Z ?_)
 by_cases w1:wd<1
 ·refine se 66 Z w1 <| am5 Z Z Z <| akv <| ao Z <| akw <| am4 Z Z <| akv <| ai <| ag <| ar Z Z ax ?_;exact ⟨rfl,rfl⟩
 refine sq 66 Z w1 <| am5 Z Z Z <| akv ?_;by_cases w2:32<wd
 ·refine dK 69 Z w2 <| ao Z <| akw <| am4 Z Z <| akv <| ai <| ag <| ar Z Z ax ?_;exact ⟨rfl,rfl⟩
 refine rM 69 Z w2 <| aj Z <| ak <| ab <| akw <| ae Z <| akv <| ad <| akw <| ae Z <| akv <| am ?_;have hm1:=hG.n1;have hm2:=hG.n2;have hbl:∀ xs∈bs,xs.length≤1000000:=fun xs hx=>by have:=hb60 xs hx;omega
 have hrfl:∀ e∈l,e.refs.length≤300:=fun e he=>(hla e he).2.1
 refine dt (S:=Nat) (fun i=> [(0,.slice A0 l.length c0),(1,.slice Ab bs.length cb),(2,ii m),(3,ii wd),(4,.slice Ao ord.length co),(11,.bool true),(12,ii ((rfs (l.take i)).length:Int)),(13,ii i)]) (fun _=> [Is W]) (fun i=>i≤l.length∧((rfs (l.take i)).length≤40→∀ x∈rfs (l.take i),Fnd bs wd x)) (fun i=>l.length - i) 0 ax ⟨anq _,fun _ x hx=>by cases hx⟩ ?_;rintro i ⟨hi,i1⟩;have hSi:(rfs (l.take i)).length≤3600:=by
  have h1:=Vo (l:=l.take i) (m:=300) fun e he=>hrfl e (aon he)
  rw [anm] at h1;have h2:min i l.length≤12:=by omega
  have h3:=Nat.mul_le_mul_left 300 h2;omega
 refine ad <| akw <| am5 Z Z Z <| ae Z <| akv ?_;refine de Z (fun h1=> ?_) (fun h1=> ?_)
 ·have h1':i<l.length:=by omega
  obtain ⟨gg,oo,rfl⟩:=k4 (by omega);have hm:=ana h1';have hsn:l.take (i+1)=l.take i ++ [l[i]]:=ang h1';have hc:∀ w,Sat W [Is W] w→w.cell? ⟨gg,oo+i*39+38,none⟩=some l[i].rv:=fun w H=>by
   rw [Aa (hl (k:=0) Z w H) h32 h1' (by omega),← lw,aF (h32 _ hm)]
  have hxr:∀ w,Sat W [Is W] w→SL w 32 l[i].rv l[i].refs.length (ig l[i].refs):=fun w H=>((hl (k:=0) Z w H).er _ hm).rv
  have hxw:=h.ew _ hm;have hxn:=hrfl _ hm;generalize l[i]=x at *;have hsl:(rfs (l.take (i+1))).length=(rfs (l.take i)).length+x.refs.length:=by rw [hsn,Fe,am9]
  have hx32:=hxw.r32;refine bu (fun w H=>cp (hxr w H)) ?_;rintro ⟨Ar,cr,hrv,_,_,_,q4,_⟩;refine ak <| ab <| ad <| am <| akw <| am5 Z Z Z <| az Z <| ae Z ?_;refine fc Z (fun w H=>br (v:= .slice Ar x.refs.length cr) Z Z Z (by rw [bq,am6,← hrv];exact hc w H)) Z ?_;refine ae Z <| az Z <| ae Z <| aan <| ae Z <| akv <| am ?_;rw [show ((rfs (l.take i)).length:Int)+(x.refs.length:Int)=((rfs (l.take (i+1))).length:Int) by omega];refine dt (S:=Nat) (fun j=> [(0,.slice (some ⟨gg,oo,none⟩) l.length c0),(1,.slice Ab bs.length cb),(2,ii m),(3,ii wd),(4,.slice Ao ord.length co),(11,.bool true),(12,ii ((rfs (l.take (i+1))).length:Int)),(13,ii i),(14,ii j)]) (fun _=> [Is W]) (fun j=>j≤x.refs.length∧∀ k (hk:k<x.refs.length),k<j→Fnd bs wd x.refs[k]) (fun j=>x.refs.length - j) 0 ax ⟨anq _,fun k _ h=>absurd h (aqi k)⟩ ?_;rintro j ⟨hj,j1⟩;refine ad <| akw <| am5 Z Z Z <| az Z <| ae Z ?_;refine fc Z (fun w H=>br (v:= .slice Ar x.refs.length cr) Z Z Z (by rw [bq,am6,← hrv];exact hc w H)) Z ?_;refine am5 Z Z Z ?_;have hnext:(j=x.refs.length∨40<(rfs (l.take (i+1))).length)→((rfs (l.take (i+1))).length≤40→∀ y∈rfs (l.take (i+1)),Fnd bs wd y):=fun hd h40 y hy=>by
   rw [hsn,Fe] at hy;rcases anr.1 hy with hy | hy
   ·exact i1 (by omega) y hy
   ·obtain ⟨k,hk,rfl⟩:=ao0.1 hy;exact j1 k hk (by omega)
  by_cases h2:j<x.refs.length;rotate_left
  ·refine px 93 Z <| am5 Z Z Z <| akv <| aj Z <| bz <| au <| av <| ap <| bh <| ab <| aa <| ae Z <| az Z <| ae Z <| ac ?_;rw [show (i:Int)+1=((i+1:Nat):Int) by omega];exact cw (i+1) ax ⟨by omega,hnext (.inl (by omega))⟩
  refine wz 93 Z <| am5 Z Z Z <| akv ?_;by_cases h3:(rfs (l.take (i+1))).length≤40;rotate_left
  ·refine oe 96 Z <| aj Z <| bz <| au <| av <| ap <| bh <| ab <| aa <| ae Z <| az Z <| ae Z <| ac ?_;rw [show (i:Int)+1=((i+1:Nat):Int) by omega];exact cw (i+1) ax ⟨by omega,hnext (.inr (by omega))⟩
  refine dL 96 Z ?_;obtain ⟨gr,or',rfl⟩:=q4 (by omega);have hid:=wj (fun w H=>by have:=hxr w H;rwa [hrv] at this) hx32 h2;have hy32:=hx32 _ (ana h2);obtain ⟨y,hy⟩:∃ y,y=x.refs[j]:=⟨_,rfl⟩;rw [← hy] at hid hy32;have hyl:(u8s y).length=32:=by rw [dr,hy32]
  refine ao Z <| ak <| ab <| ad <| am <| akw <| am5 Z Z Z <| az Z <| ae Z ?_;refine fc Z (fun w H=>br (v:= .slice (some ⟨gr,or',none⟩) x.refs.length cr) Z Z Z (by rw [bq,am6,← hrv];exact hc w H)) Z ?_;refine ae Z <| az Z ?_;refine fc Z (fun w H=>cg (cs:=u8s y) Z Z Z hyl (fun k hk=>by rw [bq,am6];exact hid w H k (by rw [hyl] at hk;exact hk))) Z ?_;refine ae Z <| bf Z Z Z (J6 (q:=0) hy32 hb Z hbl) ?_;rintro u _ ⟨hu | ⟨xs,hxs,z,_,_,hz,rfl⟩,rfl⟩
  ·obtain ⟨rfl,_⟩:=hu
   (iterate 5 refine ae Z ?_)
   refine aan <| am4 Z Z <| akv <| ao Z <| akw <| am4 Z Z <| akv <| ai <| al <| ag <| cd <| al <| al <| ag <| cd <| al <| ag <| ar Z Z ax ?_;exact ⟨rfl,rfl⟩
  ·(iterate 5 refine ae Z ?_)
   refine aan <| am4 Z Z <| akv <| aj Z <| ak <| bh <| ab <| aa <| ae Z <| az Z <| ae Z <| ac ?_;rw [show (j:Int)+1=((j+1:Nat):Int) by omega];refine cw (j+1) ax ⟨by omega,fun k hk hkj=> ?_⟩;by_cases hkj':k=j
   ·subst hkj';exact ⟨xs,hxs,hz.trans hy⟩
   ·exact j1 k hk (by omega)
 obtain rfl:i=l.length:=by omega
 rw [an7] at *;refine bz <| au <| av <| ap <| ab <| akw <| ae Z <| bf Z Z Z (ajo hm1 hm2) ?_;rintro _ _ ⟨gq,rfl,rfl⟩
 (iterate 5 refine ae Z ?_)
 refine aan <| ae Z ?_;refine bf Z Z Z (Um (w:=wd) (r:=67108864) ⟨w1,w2,by decide,by decide⟩) ?_;rintro _ _ ⟨gs,rfl,rfl⟩
 (iterate 5 refine ae Z ?_)
 refine aan <| am4 Z Z ?_;refine bf Z Z Z ((ajp (gq:=gq) (gs:=gs) (V:=List.replicate m 0) (by rw [apr];omega) (by omega)).ent (af 2 [1,0] Z)) ?_;rintro _ _ ⟨gg,rfl,rfl⟩
 (iterate 5 refine ae Z ?_)
 refine aan <| ae Z <| bf Z Z Z (Q3 hm1 hm2) ?_;rintro _ _ ⟨vv,rfl,rfl⟩;refine b9 (fun w H=>(H.oat (k:=0) Z).form) ?_;rintro ⟨Av,cv,rfl,_⟩;refine am5 Z Z Z <| db Z Z Z Z Z fun g23=>eu 0 Z Z Z Z <| ae Z <| akv <| ad <| akw <| am5 Z Z Z ?_
 by_cases h40:(rfs l).length≤40;rotate_left
 ·refine wz 139 Z ?_
  (iterate 15 refine ae Z ?_)
  refine akv <| ao Z <| akw ?_
  (iterate 6 refine ae Z ?_)
  refine akv <| ai <| ag <| ar Z Z (af 6 [5] Z) ?_;exact ⟨am7 Value.bool (ani (by omega)),rfl⟩
 refine px 139 Z ?_
 (iterate 15 refine ae Z ?_)
 refine akv <| aj Z <| ak <| ab <| akw <| ae Z <| akv <| ad <| akw <| ae Z <| akv <| am ?_;have hF:∀ x∈rfs l,Fnd bs wd x:=i1 h40;refine dt (S:=TS) (fun s=> [(0,.slice A0 l.length c0),(1,.slice Ab bs.length cb),(2,ii m),(3,ii wd),(4,.slice Ao ord.length co),(11,.bool true),(17,pp gq),(21,pp gg),(23,pp g23),(25,ii s.out.length),(26,ii s.i)])
  (fun s=>pt g23 bj (tbC s.t)::all (tbP s.t)::gat gg gq gs s.C::que gq m s.V s.L::sto gs wd 67108864 s.X :: [Is W]) (TSI l m wd ord.length) (fun s=>ord.length+2*l.length - s.i) ⟨0,List.replicate m 0,[],[],[],[],⟨.slice Av (List.replicate m (0:Int)).length cv,List.replicate m 0,.slice none 0 0,[]⟩⟩ ?_ ⟨anq _,by
   dsimp only;rw [show min (0 - ord.length) l.length=0 by omega];exact LI.start l (rfs l) hm1 hm2,rfl,Rl hm1 hm2 _⟩ ?_
 ·exact (af 6 [1,0,2,3,4,5] Z).trans (((eg (G:= [])).trans (df bi 3 Z)).trans ((af 8 [2,0,1,3,4,5,6,7] Z).trans ((eg (G:=tbP ⟨.slice Av (List.replicate m (0:Int)).length cv,List.replicate m 0,.slice none 0 0,[]⟩)).trans (af 6 [1,0,2,3,4,5] Z))))
 rintro ⟨i,V,L,C,X,out,t⟩ hI;have hi2:=hI.i;have hLI:=hI.li;have hrd:=hI.rd;have hTQ:=hI.tq;dsimp only at hi2 hLI hrd hTQ ⊢;refine ad <| akw ?_
 (iterate 5 refine ae Z ?_)
 refine az Z <| az Z <| ae Z <| akv ?_;refine de Z (fun h5=> ?_) (fun h5=> ?_);rotate_left
 ·obtain rfl:i=ord.length+2*l.length:=by omega
  have hke:min (ord.length+2*l.length - ord.length) l.length=l.length:=by omega
  rw [hke] at hLI;have hL0:=hLI.fin hG hrd;obtain ⟨hfl,hfm⟩:=hLI.full hG hL0 Z;refine bz <| au <| av <| ap <| ab <| akw <| am4 Z Z ?_;refine bf Z Z Z (Fa (n:=m) (l:=l) hG (hl (k:=5) Z) h.ew (fun e he=>by have h4:=hla e he;exact ⟨by have:=h4.2.2.1;omega,by have:=h4.2.2.2;omega⟩) hl12) ?_;rintro _ _ ⟨t2,rfl,g1,g2,g3,rfl⟩;have hpl:t2.pl=t.pl:=by
   have e1:t2.V=t.V:=by rw [g2,hTQ.v];exact hLI.vec hfm
   have e2:t2.pl.rs=t.pl.rs:=uO g1.rs hTQ.ti.rs (fun p h=>(g1.at_ p h).trans qk.nE.symm) (fun p h=>(hTQ.ti.at_ p h).trans qk.nE.symm) hfm;have e3:t2.rs.map Rp.pl=t.rs.map Rp.pl:=e2;unfold Tb.pl;rw [e1,e3]
  refine b9 (fun w H=>oZ (aI (t:=t2) (i:=0) (j:=1) (k:=2) Z Z Z w H)) fun hone2=> ?_;refine am5 Z Z Z <| db Z Z Z Z Z fun g42=> ?_;refine fh 0 Z Z Z Z Z Z Z Z hone2 Z <| ae Z <| aan ?_
  (iterate 8 refine ae Z ?_)
  refine wz 329 Z <| am5 Z Z Z <| ae Z <| bt 0 Z Z Z <| bt 4 Z Z Z ?_;refine bg (v:= .bool true) Z Z Z (gK (t:=t2) (t':=t) hpl g3 hTQ.w ?_ ?_) ?_
  ·exact aI (i:=1) (j:=2) (k:=3) Z Z Z
  ·exact rh (k:=5) Z
  refine am4 Z Z <| akv <| ai <| ar Z Z (af 10 [9] Z) ?_;exact ⟨rfl,rfl⟩
 have h5':i<ord.length+2*l.length:=by omega
 have hcx:∀ j (hj:j<l.length),∀ gg oo,A0=some ⟨gg,oo,none⟩→∀ w,Sat W [Is W] w→∀ k,k<39→w.cell? ⟨gg,oo+j*39+k,none⟩=(evC l[j])[k]?:=fun j hj gg oo hA w H k hk=>by
  subst hA;exact fb (hl (k:=0) Z w H).sl (fun e he=>di (h32 e he)) hj hk
 refine ak <| ab <| ad <| am <| akw <| db Z Z Z Z Z fun g27=> ?_
 skip
 refine akv ?_;refine rN (S:=Ev) (fun x=> [(0,.slice A0 l.length c0),(1,.slice Ab bs.length cb),(2,ii m),(3,ii wd),(4,.slice Ao ord.length co),(11,.bool true),(17,pp gq),(21,pp gg),(23,pp g23),(25,ii out.length),(26,ii i),(27,pp g27)])
  (fun x=>pt g27 ba (evC x)::pt g23 bj (tbC t)::all (tbP t)::gat gg gq gs C::que gq m V L::sto gs wd 67108864 X :: [Is W]) (fun x=>x∈l∧∀ (hk:min (i - ord.length) l.length<l.length),ord.length≤i→x=l[min (i - ord.length) l.length]) ?_ ?_
 ·refine am <| akw ?_
  (iterate 5 refine ae Z ?_)
  by_cases h6:i<ord.length
  ·refine wz 185 Z ?_
   (iterate 5 refine ae Z ?_)
   refine akv ?_;by_cases h7:0<l.length
   ·refine dL 180 Z ?_;obtain ⟨g4,o4,rfl⟩:=k4 h7;obtain ⟨go,oo',rfl⟩:=p4 (by omega);have hco:∀ w,Sat W [Is W] w→w.cell? ⟨go,oo'+i,none⟩=some (ii (ord.getD i 0)):=fun w H=>by
     rw [jz h6];exact VL.at (Iv ho (k:=0) Z w H) i h6
    generalize ord.getD i 0=z at hco;refine ao Z <| aa <| am5 Z Z Z <| az Z ?_;refine fc Z (fun w H=>br (v:=ii z) Z Z Z (by rw [bq,am6,aop];exact hco w (H.ent (af 6 [] Z)))) Z ?_;refine am4 Z Z ?_;refine bg Z Z Z (N4 (x:=z) (n:=(l.length:Int)) (by unfold I64;omega)) ?_;obtain ⟨j,hj,hjl⟩:∃ j:Nat,(if (l.length:Int)≤0 then 0 else z % (l.length:Int))=j∧j<l.length:=by
     rw [if_neg (by omega)];have h8:=ark z (b:=(l.length:Int)) (by omega);have h9:=arl z (b:=(l.length:Int)) (by omega);exact ⟨(z % (l.length:Int)).toNat,by omega,by omega⟩
    rw [hj];have hc:=hcx j hjl g4 o4 Z;have hm:=ana hjl;generalize l[j]=x at *;have xl:=di (h32 x hm);refine b9 (fun w H=>vg ((hl (k:=6) Z w H).er x hm)) ?_;rintro ⟨x1,x2⟩;refine az Z ?_;refine fc Z (fun w H=>cg (cs:=evC x) Z Z Z xl (fun k hk=>by rw [bq,am6];exact hc w (H.ent (af 6 [] Z)) k (by rw [xl] at hk;exact hk))) Z ?_;refine fh 0 Z Z Z Z Z Z Z xl (kp x1 x2) (by rw [xl];rfl) ?_;refine ac <| bh ?_;exact eK x ax ⟨hm,fun _ h=>by omega⟩
   ·have hl0:l.length=0:=by omega
    refine oe 180 Z <| aj Z <| akw ?_
    (iterate 5 refine ae Z ?_)
    refine akv <| dL 200 Z <| ao Z <| bz <| lh Z <| av <| ap <| ab <| aa <| ae Z <| az Z <| ae Z <| ac ?_;rw [show (i:Int)+1=((i+1:Nat):Int) by omega];refine cw ⟨i+1,V,L,C,X,out,t⟩ (af 7 [1,2,3,4,5,6] Z) ⟨by dsimp only;omega,?_,hrd,hTQ⟩;dsimp only;rw [show min (i+1 - ord.length) l.length=min (i - ord.length) l.length by omega];exact hLI
  ·have h7:0<l.length:=by omega
   refine px 185 Z ?_
   (iterate 5 refine ae Z ?_)
   refine akv <| aj Z <| akw ?_
   (iterate 5 refine ae Z ?_)
   refine akv <| oe 200 Z ?_;obtain ⟨g4,o4,rfl⟩:=k4 h7;have hjl:(i - ord.length) % l.length<l.length:=Nat.mod_lt _ h7;have hje:((i:Int) - (ord.length:Int)).tmod (l.length:Int)=(((i - ord.length) % l.length:Nat):Int):=by
    rw [show (i:Int) - (ord.length:Int)=((i - ord.length:Nat):Int) by omega,aph (by omega)]
    rfl
   have hmod:i - ord.length<l.length→(i - ord.length) % l.length=min (i - ord.length) l.length:=fun h=>by rw [Nat.mod_eq_of_lt h];omega
   generalize (i - ord.length) % l.length=j at *;have hc:=hcx j hjl g4 o4 Z;have hm:=ana hjl;obtain ⟨x,hx⟩:∃ x,x=l[j]:=⟨_,rfl⟩;rw [← hx] at hc hm;have xl:=di (h32 x hm);refine bu (fun w H=>vg ((hl (k:=6) Z w H).er x hm)) ?_;rintro ⟨x1,x2⟩;refine aj Z <| aa <| am5 Z Z Z <| ae Z <| az Z <| am4 Z Z <| az Z <| az Z ?_;refine fc Z (fun w H=>cg (cs:=evC x) Z Z Z xl (fun k hk=>by rw [bq,hje,am6];exact hc w (H.ent (af 6 [] Z)) k (by rw [xl] at hk;exact hk))) Z ?_;refine fh 0 Z Z Z Z Z Z Z xl (kp x1 x2) (by rw [xl];rfl) ?_;refine ac <| bh <| eK x ax ⟨hm,fun hk _=> ?_⟩;have h9:=hmod (by omega);subst h9;exact hx
 ·rintro x ⟨hxl,hxi⟩;have hxw:=h.ew x hxl;have x32:=h32 x hxl;have xl:=di x32;obtain ⟨xd,xr,xp,xt⟩:=hla x hxl;have hxer:∀ {F:List SP} {k:Nat},nth F k=some (Is W)→∀ w,Sat W F w→ER w x:=fun hk w H=>(hl hk w H).er x hxl
  refine bu (fun w H=>cp (hxer (k:=6) Z w H).rv) ?_;rintro ⟨Ar,cr,hrv,_,_,_,q4,_⟩;have hs0:((i:Int).tmod (m:Int))=((i % m:Nat):Int):=by
   rw [aph (by omega)];rfl
  have hsm:i % m<m:=Nat.mod_lt _ hm1;refine ad <| cn flo (pt g27 ba (evC x) :: [Is W]) (by decide +kernel) (af 7 [0,6] Z) <| ay Z Zl ?_;refine js 0 Z Z Z Z Z Z (dj (by rw [xl];rfl)) Z Z ?_;refine ay Z Zl <| ay Z Zl <| cq Z Z <| cq Z Z <| cz 211 (ii ((i % m+1:Nat):Int)) Z (am7 (Value.int .i64) (by omega)) ?_;refine d9 Z Z Z Z ((ajq (e:=x) (s:=((i % m+1:Nat):Int)) (gg:=gg) (gq:=gq) (gs:=gs) (n:=m) (V:=V) (L:=L) (X:=X) (C:=C) (w:=wd) (r:=67108864) (F:=pt g27 ba (evC x)::pt g23 bj (tbC t)::all (tbP t) :: [Is W]) (hxer (k:=3) Z) hxw ⟨by omega,by omega,by omega,by omega⟩ (by omega) (by omega)).ent (af 7 [3,4,5,0,1,2,6] Z)) ?_;rintro _ _ ⟨rfl,rfl⟩;refine ⟨af 7 [3,6] rfl,?_⟩
  (iterate 5 refine ay Z Zl ?_)
  refine aq <| ab <| ad <| akw <| am4 Z Z <| akv ?_;by_cases h0:uK V L wd x ((i % m+1:Nat):Int)=0;rotate_left
  ·refine ik 216 (.bool true) Z (by
    show Value.bool (!decide _)=_;rw [ans h0];rfl) ?_
   refine ao Z <| akw <| am4 Z Z <| akv <| ai <| ag <| al <| ag <| cd <| al <| ag <| ar Z Z (af 7 [6] Z) ?_;exact ⟨rfl,rfl⟩
  refine ik 216 (.bool false) Z (by
   show Value.bool (!decide _)=_;rw [ani h0];rfl) ?_
  obtain ⟨hLI2,hin,hnd⟩:=hLI.add hG (by omega) hxl hxw (by omega) (by omega) (by omega) h0;generalize bS V L wd x ((i % m+1:Nat):Int)=L1 at *;refine aj Z <| ak <| ab <| akw <| ae Z <| yk 3 Z Z Z Z Z Z ((aF x32).trans (am7 some hrv)) Z <| am4 Z Z <| akv ?_;refine rN (S:=Nat) (fun sn=> [(0,.slice A0 l.length c0),(1,.slice Ab bs.length cb),(2,ii m),(3,ii wd),(4,.slice Ao ord.length co),(11,.bool true),(17,pp gq),(21,pp gg),(23,pp g23),(25,ii out.length),(26,ii i),(27,pp g27),(30,ii sn)])
   (fun _=>gat gg gq gs C::que gq m V L1::sto gs wd 67108864 X::pt g27 ba (evC x)::pt g23 bj (tbC t)::all (tbP t) :: [Is W]) (fun sn=>sn≤x.refs.length∧(ord.length≤i→sn=x.refs.length)) ?_ ?_
  ·refine akw <| am5 Z Z Z <| ae Z <| akv ?_;refine de Z (fun h6=> ?_) (fun h6=> ?_)
   ·obtain ⟨go,oo',rfl⟩:=p4 (by omega);have h6':i<ord.length:=by omega
    have hco:∀ w,Sat W [Is W] w→w.cell? ⟨go,oo'+i,none⟩=some (ii (ord.getD i 0)):=fun w H=>by
     rw [jz h6'];exact VL.at (Iv ho (k:=0) Z w H) i h6'
    generalize ord.getD i 0=z at hco
    skip
    refine cn flo _ (by decide +kernel) ax <| ay Z Zl <| ay Z Zl <| cq Z Z ?_;refine ij Z (fun w H=>br (v:=ii z) Z Z Z (by rw [bq,am6,aop];exact hco w (H.ent (af 6 [] Z)))) Z Z ?_;refine cq Z Z <| ay Z Zl <| rQ 3 Z Z Z Z Z Z ((aF x32).trans (am7 some hrv)) Z Z <| ay Z Zl <| cq Z Z ?_;refine dh Z Z Z Z (N4 (n:=(x.refs.length:Int)+1) (by unfold I64;omega)) ax ?_;refine ay Z Zl <| aq ?_;rw [if_neg (by omega)];generalize IntKind.wrap .i64 (z.tdiv 7)=z' at *;obtain ⟨j,hj,hjl⟩:∃ j:Nat,z' % ((x.refs.length:Int)+1)=j∧j≤x.refs.length:=by
     have h8:=ark z' (b:=(x.refs.length:Int)+1) (by omega);have h9:=arl z' (b:=(x.refs.length:Int)+1) (by omega);exact ⟨(z' % ((x.refs.length:Int)+1)).toNat,by omega,by omega⟩
    rw [hj]
    skip
    exact eK j ax ⟨hjl,fun _=>by omega⟩
   ·refine ak ?_;exact eK x.refs.length ax ⟨aoc _,fun _=>rfl⟩
  ·rintro sn ⟨hsn,hsi⟩;have hx32:=hxw.r32;refine ad <| akw <| ae Z <| akv <| am ?_;refine dt (S:=Nat × CL × BL) (fun s=> [(0,.slice A0 l.length c0),(1,.slice Ab bs.length cb),(2,ii m),(3,ii wd),(4,.slice Ao ord.length co),(11,.bool true),(17,pp gq),(21,pp gg),(23,pp g23),(25,ii out.length),(26,ii i),(27,pp g27),(30,ii sn),(31,ii s.1)])
    (fun s=>gat gg gq gs s.2.1::que gq m V L1::sto gs wd 67108864 s.2.2::pt g27 ba (evC x)::pt g23 bj (tbC t)::all (tbP t) :: [Is W]) (fun s=>s.1≤sn∧LI m wd l (rfs l) (min (i - ord.length) l.length) V L1 s.2.1 s.2.2 out∧∀ q (hq:q<x.refs.length),q<s.1→(fq V x.r x.n=true∨((∃ w∈L1,dotW w=dotE x)∧x.refs[q]∈cfm (dotE x) s.2.1))) (fun s=>sn - s.1) (0,C,X) ax ⟨anq _,hLI2,fun q _ h=>absurd h (aqi q)⟩ ?_
   rintro ⟨j,C1,X1⟩ ⟨hj,hLI3,hq3⟩;dsimp only at hj hLI3 hq3 ⊢;refine ad <| akw <| am5 Z Z Z <| akv ?_;refine de Z (fun h6=> ?_) (fun h6=> ?_)
   ·have h6':j<x.refs.length:=by omega
    obtain ⟨gr,or',rfl⟩:=q4 (by omega);have hid:∀ w,Sat W [Is W] w→∀ k,k<32→w.cell? ⟨gr,or'+j*32+k,none⟩=(u8s x.refs[j])[k]?:=wj (fun w H=>by have:=(hxer (k:=0) Z w H).rv;rwa [hrv] at this) hx32 h6';have hym:=ana h6';obtain ⟨y,hy⟩:∃ y,y=x.refs[j]:=⟨_,rfl⟩;rw [← hy] at hid hym;have hy32:=hx32 y hym;have hyl:(u8s y).length=32:=by rw [dr,hy32]
    have hyR:y∈rfs l:=aq2.2 ⟨x,hxl,hym⟩;refine ak <| ab <| ad <| am <| akw <| am4 Z Z <| yk 3 Z Z Z Z Z Z ((aF x32).trans (am7 some hrv)) Z <| ae Z <| az Z ?_;refine fc Z (fun w H=>cg (cs:=u8s y) Z Z Z hyl (fun k hk=>by rw [bq,am6];exact hid w (H.ent (af 6 [] Z)) k (by rw [hyl] at hk;exact hk))) Z ?_;refine ae Z <| bf Z Z Z (J6 (q:=6) hy32 hb Z hbl) ?_;rintro u _ ⟨hu | ⟨xs,hxs,z,hz1,hz2,hz3,rfl⟩,rfl⟩
    ·obtain ⟨_,hu⟩:=hu;obtain ⟨xs,hxs,hz⟩:=hF y hyR;exact absurd hz (hu xs hxs)
    have hxs6:xs.length≤60:=by have:=hb60 xs hxs;omega
    (iterate 5 refine ae Z ?_)
    refine akv <| ad <| cn flo (pt g27 ba (evC x) :: [Is W]) (by decide +kernel) (af 7 [3,6] Z) <| ay Z Zl <| ay Z Zl <| cl 0 Z Z Z Z <| ay Z Zl <| rQ 0 Z Z Z Z Z Z ((aF x32).trans (am7 some hrv)) Z Z <| ay Z Zl <| cq Z Z ?_;refine ij Z (fun w H=>cg (cs:=u8s y) Z Z Z hyl (fun k hk=>by rw [bq,am6];exact hid w (H.ent (af 1 [] Z)) k (by rw [hyl] at hk;exact hk))) Z Z ?_;refine ay Z Zl <| d9 Z Z Z Z (Zj (gg:=gg) (gq:=gq) (gs:=gs) (n:=m) (V:=V) (L:=L1) (X:=X1) (C:=C1) (w:=wd) (r:=67108864) (d:=dotE x) (id:=y) (xs:=xs) (vb:=z) hLI3.g.ck hLI3.g.rise hxw.dot (hxw.rf y hym) (by decide) (Iv hz1 (k:=3) Z) hz2 (by omega)) ?_;rintro _ _ ⟨rfl,rfl⟩;refine ⟨af 7 [3,6] rfl,?_⟩
    (iterate 5 refine ay Z Zl ?_)
    refine aq <| ab <| ad <| akw <| am4 Z Z <| akv ?_;obtain ⟨hs1,hs2⟩:=hLI3.ship (r:=67108864) hG h40 (by decide) hxl hym hyR (hxw.rf y hym) hz3 hxs6;by_cases h9:dQ L1 X1 (dotE x) y xs wd 67108864=9
    ·refine dK 265 Z h9 <| ao Z <| akw <| am4 Z Z <| akv <| ai <| ag <| al <| ag <| cd <| al <| ag <| al <| ag <| cd <| al <| ag <| ar Z Z (af 7 [6] Z) ?_;exact ⟨rfl,rfl⟩
    refine rM 265 Z h9 ?_;have h00:=hs1.resolve_right h9;obtain ⟨hLI4,hs3,hs4⟩:=hs2 h00;refine aj Z <| ak <| ab <| akw <| am4 Z Z <| akv ?_;refine ik 268 (.bool false) Z (by
     show Value.bool (!decide _)=_;rw [ani h00];rfl) ?_
    refine aj Z <| ak <| bh <| ab <| aa <| ae Z <| az Z <| ae Z <| ac ?_;rw [show (j:Int)+1=((j+1:Nat):Int) by omega];refine cw (j+1,uq L1 C1 X1 (dotE x) y xs wd 67108864,ze L1 X1 (dotE x) y xs wd 67108864) ax ⟨by dsimp only;omega,hLI4,fun q hq hqj=> ?_⟩;dsimp only at hqj ⊢;by_cases hqe:q=j
    ·subst hqe;rw [← hy];exact hs3 hin
    ·rcases hq3 q hq (by omega) with h10 | ⟨h10,h11⟩
     ·exact .inl h10
     ·exact .inr ⟨h10,hs4 _ _ h11⟩
   ·obtain rfl:j=sn:=by omega
    obtain ⟨k2,hk2,hLIk⟩:∃ k2,k2=min (i+1 - ord.length) l.length∧LI m wd l (rfs l) k2 V L1 C1 X1 out:=by
     by_cases h7:ord.length≤i
     ·by_cases h8:i - ord.length<l.length
      ·have hsn2:=hsi h7;have hke:min (i - ord.length) l.length=i - ord.length:=by omega
       have hx2:=hxi (by omega) h7;refine ⟨min (i - ord.length) l.length+1,by omega,hLI3.next (by omega) ?_ (by rw [← hx2];exact hnd)⟩;rw [← hx2];rcases hin with h10 | h10
       ·exact .inl h10
       ·by_cases h11:fq V x.r x.n=true
        ·exact .inl h11
        ·refine .inr ⟨h10,fun y hy=> ?_⟩;obtain ⟨q,hq,rfl⟩:=ao0.1 hy;exact ((hq3 q hq (by omega)).resolve_left h11).2
      ·exact ⟨_,by omega,hLI3⟩
     ·exact ⟨_,by omega,hLI3⟩
    clear hLI3 hq3 hLI2 hLI;have hdl:=hLIk.g.dlvG;have hLI5:=hLIk.dlvG;refine bz <| au <| av <| ap <| ab <| akw <| ae Z <| bf Z Z Z (L9 (gg:=gg) (gq:=gq) (gs:=gs) (n:=m) (V:=V) (L:=L1) (C:=C1) (F:=sto gs wd 67108864 X1::pt g27 ba (evC x)::pt g23 bj (tbC t)::all (tbP t) :: [Is W])) ?_;rintro _ _ ⟨A,c,D,hD,rfl,rfl⟩;rw [← hD] at hdl hLI5;generalize (u9 V L1 C1).2.1=V2 at *;generalize (u9 V L1 C1).2.2.1=L2 at *;generalize (u9 V L1 C1).2.2.2=C2 at *;obtain ⟨_,hdls,_,hrd2⟩:=hdl;have hDw:∀ e∈D,EW e:=fun e he=>Xm (aae hdls _ (anb.2 ⟨e,he,rfl⟩))
    have hDl:∀ e∈D,∃ y∈l,nE y=nE e:=fun e he=>by
     obtain ⟨y,hy,h1⟩:=hLI5.o.out (nE e) (aoj _ (anb.2 ⟨e,he,rfl⟩));exact ⟨y,hy,h1⟩
    have hDn:D.length≤100000:=by
     have:=(hLIk.g.dlvG).2.2.1;rw [← hD,anf] at this;exact this
    have hon:(out++D.map nE).length≤12:=by
     have h1:=tu (hLI5.dots_out hG) (l':=l.map dotE) fun d hd=>by
      obtain ⟨e,he,rfl⟩:=anb.1 hd;obtain ⟨y,hy,h2⟩:=hLI5.o.out e he;obtain ⟨f1,f2,_⟩:=l5 h2;exact anb.2 ⟨y,hy,aqq f1 f2⟩
     rw [anf,anf] at h1;omega
    refine b9 (fun w H=>(H.oat (k:=0) Z).form) ?_;rintro ⟨_,_,hvA,hnc,_,qD⟩;cases hvA;refine ae Z <| akv <| ad <| akw <| ae Z <| akv <| am ?_;refine yX (S:=Nat × List Int × Tb) (fun s=> [(0,.slice A0 l.length c0),(1,.slice Ab bs.length cb),(2,ii m),(3,ii wd),(4,.slice Ao ord.length co),(11,.bool true),(17,pp gq),(21,pp gg),(23,pp g23),(25,ii ((out++(D.take s.1).map nE).length:Int)),(26,ii i),(36,.slice A D.length c),(37,ii s.1)])
     (fun s=>pt g23 bj (tbC s.2.2)::all (tbP s.2.2)::rEn A c D.length D::all (evF D)::gat gg gq gs C2::que gq m V2 L2::sto gs wd 67108864 X1 :: [Is W]) (fun s=>s.1≤D.length∧TQ l m s.2.1 (out++(D.take s.1).map nE) s.2.2∧Dls wd X1 s.2.1 ((D.drop s.1).map nE) V2) (fun s=>D.length - s.1) (0,V,t) ⟨rfl,rfl,rfl,rfl,rfl,rfl,rfl,rfl,rfl,by simp [Go.Eng.kh],rfl,rfl,rfl,trivial⟩ (af 9 [6,7,0,1,2,3,4,8] Z) ⟨anq _,by simpa using hTQ,hdls⟩ ?_
    rintro ⟨q,Vq,tq⟩ ⟨hq1,hTq,hdq⟩;dsimp only at hq1 hTq hdq ⊢;refine ad <| akw <| am5 Z Z Z <| ae Z <| akv ?_;refine de Z (fun h7=> ?_) (fun h7=> ?_)
    ·have h7':q<D.length:=by omega
     obtain ⟨gD,oD,rfl⟩:=qD (by omega);obtain ⟨e1,e2,e3,e4⟩:=Vi hdq h7';have hem:=ana h7';have hsn:D.take (q+1)=D.take q ++ [D[q]]:=ang h7';have fx:=pa (f:=evC) (sz:=39) (l:=D) (fun e he=>di (hDw e he).l32) h7';have hew:=hDw _ hem;obtain ⟨y,hyl,hye⟩:=hDl _ hem;generalize D[q]=e at *;have el:=di hew.l32;obtain ⟨_,_,_,_,f5,f6,_⟩:=l5 hye;have hys:=hla y hyl;have hon2:((D.take q).map nE).length=q:=by rw [anf,anm];omega
     have hon3:(out++(D.take q).map nE).length=out.length+q:=by rw [am9,hon2]
     have hDn12:out.length+D.length≤12:=by rw [am9,anf] at hon;exact hon
     have hap:∀ {F:List SP},(∀ w,Sat W F w→TR w tq)→(∀ w,Sat W F w→ER w e)→SC Tryz.prog jB [tbV tq,evV e] W F (akd 12 tq e F):=fun h1 h2=>Bh (hTq.tk hG) (hTq.dk hl12) (by omega) (hTq.nxt hG hyl hye e1 e2) hew (by rw [← f5];have:=hys.2.2.1;omega) (by rw [← f6];have:=hys.2.2.2;omega) (hTq.fresh e1) h1 h2
     refine ak <| ab <| ad <| am <| ad ?_;refine w9 flo 12 (pt g23 bj (tbC tq)::rEn (some ⟨gD,oD,none⟩) c D.length D :: [Is W]) (by kernel_rfl) Z (af 8 [0,2,7] Z) ?_;refine q8 (T:=Nat × Tb) 10 [6,7,8,10,11] (fun s=> [(0,.slice A0 l.length c0),(1,.slice Ab bs.length cb),(2,ii m),(3,ii wd),(4,.slice Ao ord.length co),(11,.bool true),(17,pp gq),(21,pp gg),(23,pp g23),(25,ii ((out++(D.take q).map nE).length:Int)),(26,ii i),(36,.slice (some ⟨gD,oD,none⟩) D.length c),(37,ii q),(38,pp s.1),(283,.tuple ⟨[tbV s.2,ii 0]⟩)])
      (fun s=>pt s.1 bj [.slice none 0 0,.slice none 0 0]::all (tbP s.2)::pt g23 bj (tbC tq)::rEn (some ⟨gD,oD,none⟩) c D.length D::all (evF D)::gat gg gq gs C2::que gq m V2 L2::sto gs wd 67108864 X1 :: [Is W]) (fun s=>s.2.V=wc tq.V e.r e.n∧ve (s.2.rs.map Rp.pl)∧(∀ p,atP p (s.2.rs.map Rp.pl)=uc e p (atP p (tq.rs.map Rp.pl)))∧(∀ r∈s.2.rs,RW r)∧s.2.rs.length≤12+3) ?_ (fun J=> ?_)
     ·rintro ⟨g38,t'⟩ ⟨b1,b2,b3,b4,b5⟩;dsimp only at b1 b2 b3 b4 b5 ⊢;refine pg (10,[6,7]) [] (by kernel_rfl) ⟨jm 6 2 (L2:= []) Z Z ?_,trivial⟩;refine ay Z Zl <| ay Z Zl <| aq <| s0 (af 9 [2,3,8] Z) <| jf _ Z ax <| ix (fun w H=>oZ (rh (k:=1) Z w H)) fun hone=> ?_;refine aE (vs:=tbC t') 0 Z Z Z Z Z Z Z Z Z hone Z (af 9 [2,3,8] Z) ?_;refine aq (io (af 9 [2,3,8] Z) (lN 8 1 11 1 (by kernel_rfl) (by kernel_rfl) Z ?_));refine ay Z Zl <| aq <| Ns Z (af 9 [2,3,8] Z) <| ay Z Zl <| aq ?_;have hTs:=hTq.step (e:=nE e) hG hl12 hyl hye e1 e2 e3 b1 b2 b3 b4 b5;refine ab <| ad <| akw <| am4 Z Z <| akv <| aj Z <| ak <| ab <| akw <| bt 0 Z Z Z <| fh 2 Z Z Z Z Z Z Z Z hone Z <| akv <| aa <| ae Z <| az Z <| ae Z <| ac <| bh <| ab <| aa <| ae Z <| az Z <| ae Z <| ac ?_;have hon4:(out++(D.take (q+1)).map nE).length=out.length+q+1:=by rw [hsn,anu,← anh,am9,hon3];rfl
      rw [show ((out++(D.take q).map nE).length:Int)+1=((out++(D.take (q+1)).map nE).length:Int) by omega,show (q:Int)+1=((q+1:Nat):Int) by omega];refine cw (q+1,lg Vq e.r e.n,t') (af 9 [2,1,3,4,5,6,7,8] Z) ⟨by dsimp only;omega,?_,e4⟩;dsimp only;rw [hsn,anu,← anh];exact hTs
     ·refine pg (5,[0,1,2,3,4]) [(9,[])] (by kernel_rfl) ⟨xa 0 5 Z Z Z ?_,jf _ Z ax ?_,trivial⟩
      ·refine cl 0 Z Z Z Z <| ay Z Zl <| ay Z Zl <| cq Z Z ?_;refine j5 1 (q*39) Z Z Z Z Z Z Z Z (by rw [bq,am6]) (by omega) fx (by rw [el];rfl) ?_;refine d9 Z Z Z Z (hap (rh (k:=1) Z) (tQ (k:=3) Z hem)) ?_;rintro _ _ ⟨t',rfl,b1,b2,b3,b4,b5,rfl⟩;refine ⟨af 11 [3,5,10] rfl,?_⟩;refine aq (io (af 11 [3,5,10] Z) (nu 9 0 (by kernel_rfl) Z ?_));refine jt Z Z Z Z Z Z (af 11 [3,5,10] Z) fun g38=>aq <| io (af 12 [4,6,11] Z) ?_
       exact J (g38,t') _ _ _ ⟨b1,b2,b3,b4,b5⟩ (by kernel_rfl) ⟨rfl,rfl,rfl,rfl,rfl,rfl,rfl,rfl,rfl,rfl,rfl,rfl,rfl,rfl,rfl,trivial⟩ ((af 12 [1,2,3,0,4,5,6,7,8,9,10,11] Z).trans ((eg (G:=tbP t')).trans (af 10 [1,0,2,4,5,6,7,8,9] Z)))
      ·refine jt Z Z Z Z Z Z (af 8 [0,2,7] Z) fun g38=> ?_;refine aq (io (af 9 [1,3,8] Z) (nu 0 5 (by kernel_rfl) Z ?_));refine cl 0 Z Z Z Z <| ay Z Zl <| ay Z Zl <| cq Z Z ?_;refine j5 1 (q*39) Z Z Z Z Z Z Z Z (by rw [bq,am6]) (by omega) fx (by rw [el];rfl) ?_;refine d9 Z Z Z Z (hap (rh (k:=2) Z) (tQ (k:=4) Z hem)) ?_;rintro _ _ ⟨t',rfl,b1,b2,b3,b4,b5,rfl⟩;refine ⟨af 12 [4,6,11] rfl,(aq <| io (af 12 [4,6,11] Z) ?_)⟩;exact J (g38,t') _ _ _ ⟨b1,b2,b3,b4,b5⟩ (by kernel_rfl) ⟨rfl,rfl,rfl,rfl,rfl,rfl,rfl,rfl,rfl,rfl,rfl,rfl,rfl,rfl,rfl,trivial⟩ ((eg (G:=tbP t')).trans (af 10 [1,0,2,4,5,6,7,8,9] Z))
    ·obtain rfl:q=D.length:=by omega
     rw [List.drop_length,aqm] at hdq;obtain rfl:=Vj hdq;rw [an7] at hTq ⊢;have hDD0:∀ {D2:List Ev},(D2.map nE).Perm ((l.filter fun e=>fq V2 e.r e.n).map nE)→∀ e,e∈D2.map nE↔e∈(out++D.map nE).map nE:=fun hp e=>hp.mem_iff.trans (hLI5.cut hG e)
     have hD2m:∀ {D2:List Ev},(D2.map nE).Perm ((l.filter fun e=>fq V2 e.r e.n).map nE)→∀ e∈D2,∃ y∈l,nE y=nE e:=fun hp e he=>by
      obtain ⟨y,hy,h1⟩:=anb.1 (hp.subset (anb.2 ⟨e,he,rfl⟩));exact ⟨y,(anx.1 hy).1,h1⟩
     refine bz <| au <| av <| ap <| ab <| akw <| am4 Z Z <| bf Z Z Z ((mT (gq:=gq) (n:=m) (V:=V2) (L:=L2) (F:=pt g23 bj (tbC tq)::all (tbP tq)::rEn A c D.length D::all (evF D)::gat gg gq gs C2::sto gs wd 67108864 X1 :: [Is W])).ent (af 8 [5,0,1,2,3,4,6,7] Z)) ?_;rintro uV _ rfl;refine bf Z Z Z (aad (l:=l) (V:=V2) (hl (k:=8) Z) (vlZ (k:=0) Z) (fun e he=>⟨h32 e he,by have:=(hla e he).1;omega,by have:=(hla e he).2.1;omega⟩) hl12) ?_;rintro u2 _ ⟨D2,hD2,rfl⟩;have hD2s:∀ e∈D2,EW e∧e.repo.size≤1000∧e.tag.size≤1000:=fun e he=>by
      obtain ⟨y,hy,h1⟩:=hD2m hD2 e he;obtain ⟨_,_,_,_,f5,f6,_⟩:=l5 h1;have h2:=h.ew y hy;have h3:EW (nE y):=⟨h2.id,h2.dot,h2.rf,h2.kind,h2.dp,h2.rs,h2.ts⟩;rw [h1] at h3;have h4:=hla y hy;exact ⟨Xm h3,by rw [← f5];have:=h4.2.2.1;omega,by rw [← f6];have:=h4.2.2.2;omega⟩
     have hD2n:D2.length≤12:=by
      have h1:=hD2.length_eq;rw [anf,anf] at h1;have h2:=apc (fun e=>fq V2 e.r e.n) l;omega
     refine ae Z <| bf Z Z Z (Fa (n:=m) (l:=D2) ((hLI5.cutG hG).of hD2) (fun w H=>⟨(H.oat (k:=0) Z).sl,fun e he=>tQ (k:=1) Z he w H⟩) (fun e he=>(hD2s e he).1) (fun e he=>(hD2s e he).2) hD2n) ?_;rintro _ _ ⟨t2,rfl,g1,g2,g3,rfl⟩;have hpl:t2.pl=tq.pl:=by
      have e1:t2.V=tq.V:=by rw [g2,hTq.v];exact hLI5.vec (hDD0 hD2)
      have e2:t2.pl.rs=tq.pl.rs:=uO g1.rs hTq.ti.rs (fun p h=>(g1.at_ p h).trans qk.nE.symm) (fun p h=>(hTq.ti.at_ p h).trans qk.nE.symm) (hDD0 hD2);have e3:t2.rs.map Rp.pl=tq.rs.map Rp.pl:=e2;unfold Tb.pl;rw [e1,e3]
     refine b9 (fun w H=>oZ (aI (t:=t2) (i:=0) (j:=1) (k:=2) Z Z Z w H)) fun hone2=> ?_;refine am5 Z Z Z <| db Z Z Z Z Z fun g40=> ?_;refine fh 0 Z Z Z Z Z Z Z Z hone2 Z <| ae Z <| akv <| ad <| yj (af 15 [0,1,2,3,8,9,7,12,13,14] Z) <| cn flo _ (by decide +kernel) ax <| ay Z Zl <| ay Z Zl <| ay Z Zl <| cl 0 Z Z Z Z <| cl 4 Z Z Z Z ?_;refine dh (v:= .bool true) Z Z Z Z (gK (t:=t2) (t':=tq) hpl g3 hTq.w ?_ ?_) ax ?_
     ·exact aI (i:=1) (j:=2) (k:=3) Z Z Z
     ·exact rh (k:=5) Z
     refine ay Z Zl <| ay Z Zl <| ay Z Zl <| ay Z Zl <| cl 4 Z Z Z Z <| ay Z Zl <| d9 Z Z Z Z ((mT (gq:=gq) (n:=m) (V:=V2) (L:=L2) (F:=pt g40 bj (tbC t2)::rZ t2.vv t2.V::rRs t2.rv t2.rs::all (rpF t2.rs)::pt g23 bj (tbC tq)::all (tbP tq)::gat gg gq gs C2::sto gs wd 67108864 X1 :: [Is W])).ent (af 10 [6,0,1,2,3,4,5,7,8,9] Z)) ?_;rintro uW _ rfl;refine ⟨af 11 [2,3,4,5,6,7,1,8,9,10] rfl,(dh Z Z Z Z (tT (xs:=tq.V) (ys:=V2) (fun w H=>(rh (k:=7) Z w H).v) (vlZ (k:=0) Z)) (af 11 [2,3,4,5,6,7,1,8,9,10] Z) <| yn 313 Z hTq.v <| ay Z Zl <| ay Z Zl <| aq <| ab <| aj Z <| ak <| bh <| ab <| aa <| ae Z <| az Z <| ae Z <| ac ?_)⟩;rw [show (i:Int)+1=((i+1:Nat):Int) by omega];refine cw ⟨i+1,V2,L2,C2,X1,out++D.map nE,tq⟩ (af 11 [6,7,8,1,9,10] Z) ⟨by dsimp only;omega,?_,hrd2,hTq⟩;dsimp only;rw [← hk2];exact hLI5
end Go.Proofs.YtbpdffopjkhelaaGreat
