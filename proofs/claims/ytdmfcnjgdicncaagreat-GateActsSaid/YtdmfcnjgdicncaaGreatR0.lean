/- Digests, part one: words of 32 bits; how a block's 64 words are spread. Conditions: the bytes may be read. -/
import Derived.Test.YtdmfcnjgdicncaaGreatR4
import Derived.Test.YtdmfcnjgdicncaaGreatR2
import Derived.Test.YtdmfcnjgdicncaaGreatR3
namespace Go.Proofs.YtdmfcnjgdicncaaGreat
open Go.Eng Go.RowKit

def aoe (a b:Int):Int:=aib .or .u32 a b
def ace (a b:Int):Int:=aib .xor .u32 a b
def aqi (a b:Int):Int:=aib .and .u32 a b
def my (a b:Int):Int:=IntKind.u32.wrap (a+b)
def amf (a:Int) (n:Nat):Int:=IntKind.u32.wrap (a*2 ^ n)
def aqj (a:Int) (n:Nat):Int:=a.fdiv (2 ^ n)
def aev (a:Int) (n:Nat):Int:=aoe (amf a (32 - n)) (aqj a n)
theorem awk (a b:Int):aoe a b=aoe b a:=by simp [aoe,aib,BitVec.or_comm]

theorem asw:∀ n:Fin 32,1≤n.val→aib .and .u64 (IntKind.u64.wrap (IntKind.i64.wrap (0 - (n.val:Int)))) 31=((32 - n.val:Nat):Int):=by decide +kernel
theorem ay6:∀ n:Fin 32,1≤n.val→IntKind.u64.wrap (32 - ((32 - n.val:Nat):Int))=(n.val:Int):=by decide +kernel

theorem afn (x:Int) (n:Nat) (h1:1≤n) (h2:n<32) (w:World) :
  Calls Tryz.prog yp #[.int .u32 x,.int .i64 (IntKind.i64.wrap (0 - (n:Int)))] w fun e w'=>e = .returned (.int .u32 (aev x n))∧w=w':=by
 have ha:=asw ⟨n,h2⟩ h1
 have hb:=ay6 ⟨n,h2⟩ h1
 dsimp only at ha hb
 refine pz Tryz.func196 Z Z <| sr <| o_p Z Z Z <| on <| sr <| o_p Z Z Z <| o_p Z Z Z <| o_p Z Z Z <| o_p Z Z Z <| on <| sr <| o_p Z Z Z <| o_p Z Z Z ?_
 rw [ha]
 skip
 refine o_c Z Z Z (by omega) <| o_p Z Z Z <| o_p Z Z Z <| o_p Z Z Z ?_
 rw [hb]
 refine o_c Z Z Z (by omega) <| o_p Z Z Z <| o_p Z Z Z <| on <| dq <| eo Z Z ⟨?_,rfl⟩
 have e1:min ((32 - n:Nat):Int).toNat 32=32 - n:=by omega
 have e2:min (n:Int).toNat 32=n:=by omega
 simp only [aev,aoe,amf,aqj,IntKind.bits,e1,e2]

theorem lg (x:Int) (n:Nat) (h1:1≤n) (h2:n<32) (w:World) :
  Calls Tryz.prog an7 #[.int .u32 x,.int .i64 (n:Int)] w fun e w'=>e = .returned (.int .u32 (aev x n))∧w=w':=by
 refine pz Tryz.func179 Z Z <| sr <| o_p Z Z Z <| on <| sr <| o_p Z Z Z <| o_p Z Z Z <| o_p Z Z Z <| ia Z (dm Z) Z <| (afn x n h1 h2 w).mono ?_
 rintro _ _ ⟨rfl,rfl⟩;refine ⟨_,rfl,?_⟩
 refine o_p Z Z Z <| on ?_
 exact dq (eo Z Z ⟨rfl,rfl⟩)

theorem n6 (x:Int) (n:Nat) (h1:1≤n) (h2:n<32) (w:World) :
  Calls Tryz.prog ab6 #[.int .u32 x,.int .i64 (n:Int)] w fun e w'=>e = .returned (.int .u32 (aev x n))∧Ext w w':=by
 refine pz Tryz.func205 Z Z <| dc <| bx <| o_p Z Z Z <| dh <| bn <| dc <| m0 flo (fun W'=>Ext w W') (by decide) (Fr.drew _) <| d_p Z Z Z Z <| d_p Z Z Z Z ?_
 refine d_c Z Z Z Z (by (show (0:Int)≤_;omega)) ?_
 refine d_p Z Z Z Z <| d_p Z Z Z Z <| d_c Z Z Z Z (by (unfold I64;omega)) ?_
 refine d_c Z Z Z Z (by (show (0:Int)≤_;omega)) ?_
 refine d_p Z Z Z Z <| d_p Z Z Z Z <| lu <| bn <| dq <| eo Z Z ⟨?_,Fr.drew _⟩
 have e1:min (32 - (n:Int)).toNat 32=32 - n:=by omega
 have e2:min (n:Int).toNat 32=n:=by omega
 rw [aev,awk]
 simp only [aoe,amf,aqj,IntKind.bits,e1,e2]

def afo (b:List Int) (i:Nat):Int:=b.getD i 0
def ay7 (b:List Int) (i:Nat):Int :=
 aoe (aoe (aoe (amf (IntKind.u32.wrap (afo b (4*i))) 24) (amf (IntKind.u32.wrap (afo b (4*i+1))) 16)) (amf (IntKind.u32.wrap (afo b (4*i+2))) 8)) (IntKind.u32.wrap (afo b (4*i+3)))
def a6n (x:Int):Int:=ace (ace (aev x 7) (aev x 18)) (aqj x 3)
def a6o (x:Int):Int:=ace (ace (aev x 17) (aev x 19)) (aqj x 10)
def afp (b W:List Int) (i:Nat):Int :=
 if i<16 then ay7 b i else my (my (my (W.getD (i - 16) 0) (a6n (W.getD (i - 15) 0))) (W.getD (i - 7) 0)) (a6o (W.getD (i - 2) 0))
def fc (b:List Int):Nat→List Int
 | 0 => []
 | i + 1 => fc b i ++ [afp b (fc b i) i]
theorem wh (b:List Int) (i:Nat):(fc b i).length=i:=by
 induction i with
 | zero => rfl
 | succ i ih => simp [fc, ih]
def ee (l:List Int):List Value:=l.map (Value.int .u32)
def ll (b:List Int) (i:Nat):List Value:=ee (fc b i)++List.replicate (64 - i) (.int .u32 0)
theorem aew (b:List Int) (i:Nat) (h:i≤64):(ll b i).length=64:=by simp [ll,ee,wh];omega
theorem aj3 (b:List Int) (i j:Nat) (h:j<i):(ll b i)[j]? = some (.int .u32 ((fc b i).getD j 0)):=by
 have hl:=wh b i
 rw [ll,List.getElem?_append_left (by simp [ee,hl];omega)]
 simp only [ee,List.getElem?_map,List.getD_eq_getElem?_getD]
 rw [List.getElem?_eq_getElem (by omega)]
 rfl
theorem aex (b:List Int) (i:Nat) (h:i<64):(ll b i).set i (.int .u32 (afp b (fc b i) i))=ll b (i+1):=by
 have hl:=wh b i
 unfold ll
 rw [List.set_append_right _ _ (by simp [ee,hl])]
 have e:64 - i=(64 - (i+1))+1:=by omega
 rw [e,List.replicate_succ]
 simp [ee,fc,hl]

theorem aqk {vb:Value} {b:List Int} {w:World} (hb:VL (Value.int .u8) w vb b) (hl:64≤b.length) :
  Calls Tryz.prog an6 #[vb] w fun e w'=>e = .returned (.agg (ee (fc b 64)).toArray)∧Ext w w':=by
 obtain ⟨A,c,rfl,hnc,hcm,hz,hcell⟩:=hb.op
 refine aee Tryz.func178 Z Z <| dc <| bx <| ai5 Z Z Z Z ?_
 intro w1 B1 e1 z1
 change Blk w1 w.heap.size en (ll b 0) at B1
 refine on <| ss <| sr <| o_p Z Z Z <| on ?_
 refine iq (vk (G:=Nat) (fun i=> [(0,.slice A b.length c),(2,.pointer (some ⟨w.heap.size,0,none⟩)),(6,.int .i64 (i:Int))]) (fun i W=>Ext w W∧Blk W w.heap.size en (ll b i)∧i≤64) (fun i=>64 - i) ?_ ?_)
 ·exact ⟨0,⟨rfl,rfl,rfl,trivial⟩,e1,B1,by omega⟩
 rintro i W ⟨hE,B,hi⟩
 try dsimp only
 refine sr <| o_p Z Z Z <| on ?_
 refine (dc (qv Z (fun h=> ?_) (fun h=> ?_)))
 ·obtain ⟨bk,off,rfl,hbk,hc⟩:=hcell 0 (by omega)
  have hE':Ext w W.drew:=hE.trans (Fr.drew _)
  have hlen:=aew b i (by omega)
  refine jg <| bn <| dc <| iq <| dc <| bx <| o_p Z Z Z <| o_p Z Z Z <| on <| ss <| sr <| o_p Z Z Z <| o_p Z Z Z <| on ?_
  have h0:∀ j:Nat,0+j=j:=fun j=>Nat.zero_add j
  have hex:∃ u,(ll b i)[i]? = some u:=⟨_,List.getElem?_eq_getElem (by omega)⟩
  obtain ⟨u,hu⟩:=hex
  have hst:∀ W',Blk W' w.heap.size en (ll b i)→W'.cell? ⟨w.heap.size,0+i,none⟩=some u∧W'.frozen? ⟨w.heap.size,0+i,none⟩=false:=by
   intro W' h;rw [h0];exact ⟨(h.cell i).trans hu,h.frozen i⟩
  refine qv Z (fun h2=> ?_) (fun h2=> ?_)
  ·have Bd:=B.ext (Fr.drew W)
   have hbyte:∀ j,j<4→W.drew.cell? ⟨bk,off+(4*i+j),none⟩=some (.int .u8 (afo b (4*i+j))):=by
    intro j hj
    have:=hE'.cell (hc (4*i+j) (by omega))
    rw [this,afo,List.getD_eq_getElem?_getD,List.getElem?_eq_getElem (by omega)]
    rfl
   refine dc <| m0 flo (fun W'=>∀ j,j<4→W'.cell? ⟨bk,off+(4*i+j),none⟩=some (.int .u8 (afo b (4*i+j)))) (by decide +kernel) hbyte <| d_p Z Z Z Z <| d_p Z Z Z Z <| d_p Z Z Z Z <| d_c Z Z Z Z (by (unfold I64;omega)) <| nj (4*i+0) Z Z Z Z (by omega) (by omega) <| gt Z Z (fun W' hW'=>bm Z Z Z (hW' 0 (by omega))) Z <| d_p Z Z Z Z ?_
   refine d_c Z Z Z Z (by (show (0:Int)≤_;omega)) ?_
   refine d_p Z Z Z Z <| d_p Z Z Z Z ?_
   (iterate 2 refine d_c Z Z Z Z (by (unfold I64;omega)) ?_)
   refine nj (4*i+1) Z Z Z Z (by omega) (by omega) <| gt Z Z (fun W' hW'=>bm Z Z Z (hW' 1 (by omega))) Z <| d_p Z Z Z Z ?_
   refine d_c Z Z Z Z (by (show (0:Int)≤_;omega)) ?_
   refine d_p Z Z Z Z <| d_p Z Z Z Z <| d_p Z Z Z Z ?_
   (iterate 2 refine d_c Z Z Z Z (by (unfold I64;omega)) ?_)
   refine nj (4*i+2) Z Z Z Z (by omega) (by omega) <| gt Z Z (fun W' hW'=>bm Z Z Z (hW' 2 (by omega))) Z <| d_p Z Z Z Z ?_
   refine d_c Z Z Z Z (by (show (0:Int)≤_;omega)) ?_
   refine d_p Z Z Z Z <| d_p Z Z Z Z <| d_p Z Z Z Z ?_
   (iterate 2 refine d_c Z Z Z Z (by (unfold I64;omega)) ?_)
   refine nj (4*i+3) Z Z Z Z (by omega) (by omega) <| gt Z Z (fun W' hW'=>bm Z Z Z (hW' 3 (by omega))) Z <| d_p Z Z Z Z <| d_p Z Z Z Z <| nj (i) Z Z Z Z (by omega) (by omega) ?_
   refine apa Z Z (ub Z Z Z Z Z (hst _ Bd).1 (hst _ Bd).2) ?_ ?_
   ·intro j hj
    have hne:=hE.size
    have hbl:=hbk
    exact (Fr.cell' (Fr.setCell _ _ _) (hbyte j hj) (by simp;omega))
   refine lu <| bn <| re <| jr <| jj <| bn <| bx ?_
   refine o_c Z Z Z (by unfold I64;omega) ?_
   refine o_p Z Z Z ?_
   have hn:afp b (fc b i) i=ay7 b i:=if_pos (by omega)
   have Bs:=Bd.set i (.int .u32 (afp b (fc b i) i))
   rw [aex b i (by omega),hn] at Bs
   have hzz:0+yw i 1=i:=by rw [bi];omega
   refine (dh (p8 (i+1) ?_ ?_ ?_))
   ·exact ⟨rfl,rfl,rfl,trivial⟩
   ·refine ⟨hE'.trans' (Fr.setCell _ _ _) (fun j hj h=>by simp at h;omega),?_,by omega⟩
    rw [hzz]
    exact Bs
   ·show 64 - (i+1)<64 - i;omega
  ·have h2':16≤i:=by omega
   have Bd:=B.ext (Fr.drew W)
   have hS:∀ j,j<i→W.drew.cell? ⟨w.heap.size,0+j,none⟩=some (.int .u32 ((fc b i).getD j 0)):=fun j hj=>by
    rw [h0];exact (Bd.cell j).trans (aj3 b i j hj)
   have hS2:∀ j,j<i→W.drew.drew.cell? ⟨w.heap.size,0+j,none⟩=some (.int .u32 ((fc b i).getD j 0)):=fun j hj=>Ext.cell (Fr.drew _) (hS j hj)
   have hS3:∀ j,j<i→W.drew.drew.drew.cell? ⟨w.heap.size,0+j,none⟩=some (.int .u32 ((fc b i).getD j 0)):=fun j hj=>Ext.cell (Fr.drew _) (hS2 j hj)
   refine jg <| bn <| dc <| m0 flo (fun W'=>∀ j,j<i→W'.cell? ⟨w.heap.size,0+j,none⟩=some (.int .u32 ((fc b i).getD j 0))) (by decide +kernel) hS <| d_p Z Z Z Z <| d_c Z Z Z Z (by (unfold I64;omega)) <| nj (i - 15) Z Z Z Z (by omega) (by omega) <| gt Z Z (fun W' hW'=>bm Z Z Z (hW' (i - 15) (by omega))) Z <| lm Z Z (dm Z) Z <| (lg _ 7 (by decide) (by decide) _).mono ?_
   rintro _ _ ⟨rfl,rfl⟩;refine ⟨_,rfl,hS,?_⟩
   refine d_p Z Z Z Z <| d_c Z Z Z Z (by (unfold I64;omega)) <| nj (i - 15) Z Z Z Z (by omega) (by omega) <| gt Z Z (fun W' hW'=>bm Z Z Z (hW' (i - 15) (by omega))) Z <| lm Z Z (dm Z) Z <| (lg _ 18 (by decide) (by decide) _).mono ?_
   rintro _ _ ⟨rfl,rfl⟩;refine ⟨_,rfl,hS,?_⟩
   refine d_p Z Z Z Z <| d_p Z Z Z Z <| d_c Z Z Z Z (by (unfold I64;omega)) <| nj (i - 15) Z Z Z Z (by omega) (by omega) <| gt Z Z (fun W' hW'=>bm Z Z Z (hW' (i - 15) (by omega))) Z ?_
   refine d_c Z Z Z Z (by (show (0:Int)≤_;omega)) ?_
   refine d_p Z Z Z Z <| d_p Z Z Z Z <| lu <| bn <| dc <| m0 flo (fun W'=>∀ j,j<i→W'.cell? ⟨w.heap.size,0+j,none⟩=some (.int .u32 ((fc b i).getD j 0))) (by decide +kernel) hS2 <| d_p Z Z Z Z <| d_c Z Z Z Z (by (unfold I64;omega)) <| nj (i - 2) Z Z Z Z (by omega) (by omega) <| gt Z Z (fun W' hW'=>bm Z Z Z (hW' (i - 2) (by omega))) Z <| lm Z Z (dm Z) Z <| (lg _ 17 (by decide) (by decide) _).mono ?_
   rintro _ _ ⟨rfl,rfl⟩;refine ⟨_,rfl,hS2,?_⟩
   refine d_p Z Z Z Z <| d_c Z Z Z Z (by (unfold I64;omega)) <| nj (i - 2) Z Z Z Z (by omega) (by omega) <| gt Z Z (fun W' hW'=>bm Z Z Z (hW' (i - 2) (by omega))) Z <| lm Z Z (dm Z) Z <| (lg _ 19 (by decide) (by decide) _).mono ?_
   rintro _ _ ⟨rfl,rfl⟩;refine ⟨_,rfl,hS2,?_⟩
   refine d_p Z Z Z Z <| d_p Z Z Z Z <| d_c Z Z Z Z (by (unfold I64;omega)) <| nj (i - 2) Z Z Z Z (by omega) (by omega) <| gt Z Z (fun W' hW'=>bm Z Z Z (hW' (i - 2) (by omega))) Z ?_
   refine d_c Z Z Z Z (by (show (0:Int)≤_;omega)) ?_
   refine d_p Z Z Z Z <| d_p Z Z Z Z <| lu <| bn <| m0 flo (fun W'=>∀ j,j<i→W'.cell? ⟨w.heap.size,0+j,none⟩=some (.int .u32 ((fc b i).getD j 0))) (by decide +kernel) hS3 <| d_p Z Z Z Z <| d_p Z Z Z Z <| d_c Z Z Z Z (by (unfold I64;omega)) <| nj (i - 16) Z Z Z Z (by omega) (by omega) <| gt Z Z (fun W' hW'=>bm Z Z Z (hW' (i - 16) (by omega))) Z <| d_p Z Z Z Z <| d_p Z Z Z Z <| d_p Z Z Z Z <| d_c Z Z Z Z (by (unfold I64;omega)) <| nj (i - 7) Z Z Z Z (by omega) (by omega) <| gt Z Z (fun W' hW'=>bm Z Z Z (hW' (i - 7) (by omega))) Z <| d_p Z Z Z Z <| d_p Z Z Z Z <| d_p Z Z Z Z <| nj (i) Z Z Z Z (by omega) (by omega) ?_
   have B3:=(Bd.ext (Fr.drew _)).ext (Fr.drew W.drew.drew)
   have hE3:Ext w W.drew.drew.drew:=(hE'.trans (Fr.drew _)).trans (Fr.drew _)
   refine apa Z Z (ub Z Z Z Z Z (hst _ B3).1 (hst _ B3).2) ?_ ?_
   ·intro j hj
    have hne:(⟨w.heap.size,0+j,none⟩:Addr)≠⟨w.heap.size,0+yw i 1,none⟩:=by rw [bi];simp <;> omega
    rw [World.cell?_setCell_other _ _ _ _ hne.symm]
    exact hS3 j hj
   have hn:afp b (fc b i) i=my (my (my ((fc b i).getD (i - 16) 0) (a6n ((fc b i).getD (i - 15) 0))) ((fc b i).getD (i - 7) 0)) (a6o ((fc b i).getD (i - 2) 0)):=if_neg (by omega)
   have Bs:=B3.set i (.int .u32 (afp b (fc b i) i))
   rw [aex b i (by omega),hn] at Bs
   have hzz:0+yw i 1=i:=by rw [bi];omega
   refine lu <| kq <| bn <| bx ?_
   refine o_c Z Z Z (by unfold I64;omega) ?_
   refine o_p Z Z Z ?_
   refine (dh (p8 (i+1) ?_ ?_ ?_))
   ·exact ⟨rfl,rfl,rfl,trivial⟩
   ·refine ⟨hE3.trans' (Fr.setCell _ _ _) (fun j hj h=>by simp at h;omega),?_,by omega⟩
    rw [hzz]
    exact Bs
   ·show 64 - (i+1)<64 - i;omega
 ·refine re <| jr <| j9 <| jj <| bn <| dc <| bx ?_
  obtain rfl:i=64:=by omega
  have hlen:=aew b 64 (by omega)
  have hW:ll b 64=ee (fc b 64):=by simp [ll]
  rw [hW] at B hlen
  generalize fc b 64=X at *
  refine dr Z (cn (cs:=ee X) Z Z Z hlen (fun j _=>by rw [Nat.zero_add];exact B.cell j)) Z ?_
  refine ad3 Z (agk (vs:=ee X) Z Z Z Z (by rw [hlen];rfl) (by intro u hu;obtain ⟨x,_,rfl⟩:=List.mem_map.1 hu;rfl) B (Nat.ble_eq_true_of_le (by omega))) ?_
  have Bf:=B.setRow (ds:=spl (ee X) 0 (ee X))
  have hspl:spl (ee X) 0 (ee X)=ee X:=by simp [spl]
  rw [hspl] at Bf
  rw [hspl]
  refine (dh (bn (dq (aim Z Z Z Z (by rw [hlen];rfl) Bf ⟨rfl,?_⟩))))
  exact hE.trans' (Fr.setRow _ _ _) (fun j hj h=>by omega)

def zd:List Int:= [
 0x428a2f98,0x71374491,0xb5c0fbcf,0xe9b5dba5,0x3956c25b,0x59f111f1,0x923f82a4,0xab1c5ed5,
 0xd807aa98,0x12835b01,0x243185be,0x550c7dc3,0x72be5d74,0x80deb1fe,0x9bdc06a7,0xc19bf174,
 0xe49b69c1,0xefbe4786,0x0fc19dc6,0x240ca1cc,0x2de92c6f,0x4a7484aa,0x5cb0a9dc,0x76f988da,
 0x983e5152,0xa831c66d,0xb00327c8,0xbf597fc7,0xc6e00bf3,0xd5a79147,0x06ca6351,0x14292967,
 0x27b70a85,0x2e1b2138,0x4d2c6dfc,0x53380d13,0x650a7354,0x766a0abb,0x81c2c92e,0x92722c85,
 0xa2bfe8a1,0xa81a664b,0xc24b8b70,0xc76c51a3,0xd192e819,0xd6990624,0xf40e3585,0x106aa070,
 0x19a4c116,0x1e376c08,0x2748774c,0x34b0bcb5,0x391c0cb3,0x4ed8aa4a,0x5b9cca4f,0x682e6ff3,
 0x748f82ee,0x78a5636f,0x84c87814,0x8cc70208,0x90befffa,0xa4506ceb,0xbef9a3f7,0xc67178f2]
def ld:List Int:= [0x6a09e667,0xbb67ae85,0x3c6ef372,0xa54ff53a,0x510e527f,0x9b05688c,0x1f83d9ab,0x5be0cd19]

theorem nv (l:List Int):∀ u∈ee l,u.oneCell'=true:=by intro u hu;obtain ⟨x,_,rfl⟩:=List.mem_map.1 hu;rfl
theorem j6 (l:List Int):(ee l).length=l.length:=by simp [ee]
theorem acf (l:List Int) (i:Nat) (h:i<l.length):(ee l)[i]? = some (.int .u32 (l.getD i 0)):=by
 simp only [ee,List.getElem?_map,List.getD_eq_getElem?_getD]
 rw [List.getElem?_eq_getElem h];rfl
set_option maxRecDepth 20000 in
theorem awl (w:World):Calls Tryz.prog asr #[] w fun e w'=>e = .returned (.agg (ee zd).toArray)∧Ext w w':=by
 refine anc Tryz.func177 Z Z <| dc <| bx <| ai5 Z Z Z Z ?_
 intro w1 B1 e1 z1
 change Blk w1 w.heap.size en (ee (List.replicate 64 0)) at B1
 refine on <| sr ?_
 refine yv (v:= .agg ⟨ee zd⟩) Z (qk (by kernel_rfl)) Z ?_
 refine ad3 Z (td (vs:=ee zd) Z Z Z Z Z (nv _) B1 Z) ?_
 exact (dh (bn (dq (aim Z Z Z Z Z (B1.setRow (ds:=ee zd)) ⟨rfl,e1.trans' (Fr.setRow _ _ _) (fun j hj h=>by omega)⟩))))
set_option maxRecDepth 20000 in
theorem aof (w:World):Calls Tryz.prog ab7 #[] w fun e w'=>e = .returned (.agg (ee zd).toArray)∧Ext w w':=by
 refine anc Tryz.func206 Z Z <| dc <| bx <| ai5 Z Z Z Z ?_
 intro w1 B1 e1 z1
 change Blk w1 w.heap.size en (ee (List.replicate 64 0)) at B1
 refine on <| sr ?_
 refine yv (v:= .agg ⟨ee zd⟩) Z (qk (by kernel_rfl)) Z ?_
 refine ad3 Z (td (vs:=ee zd) Z Z Z Z Z (nv _) B1 Z) ?_
 exact (dh (bn (dq (aim Z Z Z Z Z (B1.setRow (ds:=ee zd)) ⟨rfl,e1.trans' (Fr.setRow _ _ _) (fun j hj h=>by omega)⟩))))
theorem asx (w:World):Calls Tryz.prog aqa #[] w fun e w'=>e = .returned (.agg (ee ld).toArray)∧Ext w w':=by
 refine anc Tryz.func139 Z Z <| dc <| bx <| ai5 Z Z Z Z ?_
 intro w1 B1 e1 z1
 change Blk w1 w.heap.size jy (ee (List.replicate 8 0)) at B1
 refine on <| sr ?_
 refine yv (v:= .agg ⟨ee ld⟩) Z (qk (by kernel_rfl)) Z ?_
 refine ad3 Z (td (vs:=ee ld) Z Z Z Z Z (nv _) B1 Z) ?_
 exact (dh (bn (dq (aim Z Z Z Z Z (B1.setRow (ds:=ee ld)) ⟨rfl,e1.trans' (Fr.setRow _ _ _) (fun j hj h=>by omega)⟩))))

structure W8 where
 a:Int
 b:Int
 c:Int
 d:Int
 e:Int
 f:Int
 g:Int
 h:Int
def W8.l (s:W8):List Int:= [s.a,s.b,s.c,s.d,s.e,s.f,s.g,s.h]
def bdg (s:W8) (k x:Int):Int:=my (my (my (my s.h (ace (ace (aev s.e 6) (aev s.e 11)) (aev s.e 25))) (ace (aqi s.e s.f) (aqi (cpl .u32 s.e) s.g))) k) x
def bf5 (s:W8):Int:=my (ace (ace (aev s.a 2) (aev s.a 13)) (aev s.a 22)) (ace (ace (aqi s.a s.b) (aqi s.a s.c)) (aqi s.b s.c))
def rnd (s:W8) (k x:Int):W8:=⟨my (bdg s k x) (bf5 s),s.a,s.b,s.c,my s.d (bdg s k x),s.e,s.f,s.g⟩
def acg (s:W8) (K X:List Int):Nat→W8
 | 0 => s
 | n + 1 => rnd (acg s K X n) (K.getD n 0) (X.getD n 0)
def upd (A C:List Int) (i:Nat):List Int:=(List.range 8).map fun j=>if j<i then my (A.getD j 0) (C.getD j 0) else A.getD j 0
theorem rx (A C:List Int) (i:Nat):(upd A C i).length=8:=by simp [upd]
theorem ais (A C:List Int) (i j:Nat) (h:j<8):(upd A C i).getD j 0=if j<i then my (A.getD j 0) (C.getD j 0) else A.getD j 0:=by
 rw [List.getD_eq_getElem?_getD,List.getElem?_eq_getElem (by rw [rx];exact h)];simp [upd]
theorem aut (A C:List Int) (i:Nat) (h:i<8):(upd A C i).set i (my (A.getD i 0) (C.getD i 0))=upd A C (i+1):=by
 apply List.ext_getElem
 ·simp [rx]
 ·intro j h1 h2
  rw [List.getElem_set]
  simp only [upd,List.getElem_map,List.getElem_range]
  split
  ·rename_i e;subst e;rw [if_pos (by omega)]
  ·rename_i e
   by_cases hj:j<i
   ·rw [if_pos hj,if_pos (by omega)]
   ·rw [if_neg hj,if_neg (by omega)]
theorem aql (A C:List Int) (h:A.length=8):upd A C 0=A:=by
 apply List.ext_getElem
 ·rw [rx,h]
 ·intro j h1 h2
  simp [upd,List.getElem?_eq_getElem h2]
def toW (l:List Int):W8:=⟨l.getD 0 0,l.getD 1 0,l.getD 2 0,l.getD 3 0,l.getD 4 0,l.getD 5 0,l.getD 6 0,l.getD 7 0⟩
theorem a48 (l:List Int) (h:l.length=8):(toW l).l=l:=by
 match l,h with
 | [_, _, _, _, _, _, _, _], _ => rfl
def qp (A b:List Int):List Int:=upd A (acg (toW A) zd (fc b 64) 64).l 8
theorem aar (A b:List Int):(qp A b).length=8:=rx _ _ _

theorem a6p {P:Program} {fl:Oper→Bool} {ro:Option Nat} {N:Nat} {S:World→Prop} {l:List Oper} {k:Nat} {rest:List Oper} {Q:Exit→Act→World→Prop} {E E':List (Nat × Value)} {ds:List Deferred} {w:World} (hs:Sub E' E)
  (h:DW P fl ro N S l k rest Q E' ds w):DW P fl ro N S l k rest Q E ds w:=fun a hk hd hS hl=>h a (hk.sub hs) hd hS hl
def a6q:Option Code→Code
 | some (.seq r _) => r
 | _ => .skip
set_option maxRecDepth 20000 in
theorem asy {vb:Value} {A b:List Int} {rest:List Value} {ga ta:Nat} {w:World} {Q':Exit→Act→World→Prop} (hb:VL (Value.int .u8) w vb b) (hl:64≤b.length) (hA:A.length=8) (BA:Blk w ga ta (ee A++rest))
  (H:∀ w8 gc gk gx,Ext w w8→w.heap.size≤gc→w.heap.size≤gk→w.heap.size≤gx→gc≠gk→gc≠gx→gk≠gx→Blk w8 gc jy (ee A)→Blk w8 gk en (ee zd)→Blk w8 gx en (ee (fc b 64)) →
   PN Tryz.f141.ntmps Q' .normal [(0,.pointer (some ⟨ga,0,none⟩)),(4,.pointer (some ⟨gc,0,none⟩)),(5,.pointer (some ⟨gk,0,none⟩)),(6,.pointer (some ⟨gx,0,none⟩))] [] w8) :
  CW Tryz.prog none Tryz.f141.ntmps (a6q Tryz.f141.body) Q' [(0,.pointer (some ⟨ga,0,none⟩)),(1,vb)] [] w:=by
 have hA8:(ee A).length=8:=by rw [j6,hA]
 let own:Nat→Value→Option Nat:=fun i v=>if 6≤i then (match v with | .pointer (some a)=>some a.block | _=>none) else none
 let φ:Nat→(Nat→Value)→World→Prop:=fun i vs w=>match i with
  | 0 => vs 0 = .pointer (some ⟨ga, 0, none⟩)
  | 1 => vs 1 = .pointer (some ⟨ga, 0, none⟩)
  | 2 => vs 2 = .agg (ee A).toArray
  | 3 => vs 3 = .agg (ee zd).toArray
  | 4 => vs 4 = vb
  | 5 => vs 5 = .agg (ee (fc b 64)).toArray
  | 6 => ∃ g, vs 6 = .pointer (some ⟨g, 0, none⟩) ∧ Blk w g jy (ee (List.replicate 8 0))
  | 7 => ∃ g, vs 7 = .pointer (some ⟨g, 0, none⟩) ∧ Blk w g en (ee (List.replicate 64 0))
  | 8 => ∃ g, vs 8 = .pointer (some ⟨g, 0, none⟩) ∧ Blk w g en (ee (List.replicate 64 0))
  | _ => True
 refine a50 (fl:=flo) 9 (fun _=>True) [(0,.pointer (some ⟨ga,0,none⟩)),(1,vb)] ⟨rfl,rfl,trivial⟩ Z (by kernel_rfl) φ own ?_ ?_ ?_ ?_
 ·intro j vs w1 w2 h hE
  match j,h with
  | 0, h | 1, h | 2, h | 3, h | 4, h | 5, h => exact h
  | 6, ⟨g, h1, h2⟩ => exact ⟨g, h1, h2.ext hE⟩
  | 7, ⟨g, h1, h2⟩ => exact ⟨g, h1, h2.ext hE⟩
  | 8, ⟨g, h1, h2⟩ => exact ⟨g, h1, h2.ext hE⟩
  | _ + 9, _ => trivial
 ·intro j vs vs' w1 h hv
  have:=hv j Zl
  match j,h with
  | 0, h | 1, h | 2, h | 3, h | 4, h | 5, h => exact this.symm.trans h
  | 6, ⟨g, h1, h2⟩ => exact ⟨g, this.symm.trans h1, h2⟩
  | 7, ⟨g, h1, h2⟩ => exact ⟨g, this.symm.trans h1, h2⟩
  | 8, ⟨g, h1, h2⟩ => exact ⟨g, this.symm.trans h1, h2⟩
  | _ + 9, _ => trivial
 ·intro i o hi ho vs a w' hE hk hφ
  match i,hi,ho,hk,hφ with
  | 0, _, ho, hk, hφ =>
   obtain rfl:=Option.some.inj ho
   exact aab hk (tc (tt:=yu tts) (by kernel_rfl) w') ⟨Fr.refl _ _,rfl,fun g h=>by simp [own] at h⟩
  | 1, _, ho, hk, hφ =>
   obtain rfl:=Option.some.inj ho
   have h0:vs 0 = .pointer (some ⟨ga,0,none⟩):=hφ 0 (by decide +kernel)
   have hk:=hk.sub (E':= [(11,.pointer (some ⟨ga,0,none⟩))]) ⟨by rw [← h0];kernel_rfl,trivial⟩
   exact aab hk (tc (tt:=yu tts) (by kernel_rfl) w') ⟨Fr.refl _ _,rfl,fun g h=>by simp [own] at h⟩
  | 2, _, ho, hk, hφ =>
   obtain rfl:=Option.some.inj ho
   have h0:vs 1 = .pointer (some ⟨ga,0,none⟩):=hφ 1 (by decide +kernel)
   have hk:=hk.sub (E':= [(12,.pointer (some ⟨ga,0,none⟩))]) ⟨by rw [← h0];kernel_rfl,trivial⟩
   exact aab hk (cn (tt:=yu tts) (cs:=ee A) Z Z Z hA8 (fun j hj=>by rw [Nat.zero_add,(BA.ext hE).cell j,List.getElem?_append_left hj])) ⟨Fr.refl _ _,rfl,fun g h=>by simp [own] at h⟩
  | 3, _, ho, hk, hφ =>
   obtain rfl:=Option.some.inj ho
   have hk:=hk.sub (E':= []) trivial
   refine aja hk (dm Z) <| (awl w').mono ?_
   rintro e w'' ⟨rfl,he⟩
   exact ⟨_,rfl,he,rfl,fun g h=>by simp [own] at h⟩
  | 4, _, ho, hk, hφ =>
   obtain rfl:=Option.some.inj ho
   have hk:=hk.sub (E':= [(1,vb)]) ⟨by kernel_rfl,trivial⟩
   exact aab hk (tc (tt:=yu tts) (by kernel_rfl) w') ⟨Fr.refl _ _,rfl,fun g h=>by simp [own] at h⟩
  | 5, _, ho, hk, hφ =>
   obtain rfl:=Option.some.inj ho
   have h0:vs 4=vb:=hφ 4 (by decide +kernel)
   have hk:=hk.sub (E':= [(15,vb)]) ⟨by rw [← h0];kernel_rfl,trivial⟩
   refine aja hk (dm Z) <| (aqk (hb.ext hE) hl).mono ?_
   rintro e w'' ⟨rfl,he⟩
   exact ⟨_,rfl,he,rfl,fun g h=>by simp [own] at h⟩
  | 6, _, ho, hk, hφ =>
   obtain rfl:=Option.some.inj ho
   exact aab hk (wk (tt:=yu tts) Z) ⟨Fr.alloc _ _,⟨_,rfl,Blk.new w' jy (ee (List.replicate 8 0))⟩,fun g h=>by simp [own] at h;subst h;simp⟩
  | 7, _, ho, hk, hφ =>
   obtain rfl:=Option.some.inj ho
   exact aab hk (wk (tt:=yu tts) Z) ⟨Fr.alloc _ _,⟨_,rfl,Blk.new w' en (ee (List.replicate 64 0))⟩,fun g h=>by simp [own] at h;subst h;simp⟩
  | 8, _, ho, hk, hφ =>
   obtain rfl:=Option.some.inj ho
   exact aab hk (wk (tt:=yu tts) Z) ⟨Fr.alloc _ _,⟨_,rfl,Blk.new w' en (ee (List.replicate 64 0))⟩,fun g h=>by simp [own] at h;subst h;simp⟩
  | _ + 9, h, _, _, _ => omega
 ·intro vs w5 hE hφ hlow hap
  have v2:vs 2 = .agg (ee A).toArray:=hφ 2 (by decide)
  have v3:vs 3 = .agg (ee zd).toArray:=hφ 3 (by decide)
  have v5:vs 5 = .agg (ee (fc b 64)).toArray:=hφ 5 (by decide)
  obtain ⟨gc,v6,B6⟩:∃ g,vs 6 = .pointer (some ⟨g,0,none⟩)∧Blk w5 g jy (ee (List.replicate 8 0)):=hφ 6 (by decide)
  obtain ⟨gk,v7,B7⟩:∃ g,vs 7 = .pointer (some ⟨g,0,none⟩)∧Blk w5 g en (ee (List.replicate 64 0)):=hφ 7 (by decide)
  obtain ⟨gx,v8,B8⟩:∃ g,vs 8 = .pointer (some ⟨g,0,none⟩)∧Blk w5 g en (ee (List.replicate 64 0)):=hφ 8 (by decide)
  have o6:own 6 (vs 6)=some gc:=by rw [v6];rfl
  have o7:own 7 (vs 7)=some gk:=by rw [v7];rfl
  have o8:own 8 (vs 8)=some gx:=by rw [v8];rfl
  have l6:=hlow 6 (by decide) gc o6
  have l7:=hlow 7 (by decide) gk o7
  have l8:=hlow 8 (by decide) gx o8
  have n67:gc≠gk:=fun e=>hap 6 7 (by decide) (by decide) (by decide) gc o6 (by rw [o7,e])
  have n68:gc≠gx:=fun e=>hap 6 8 (by decide) (by decide) (by decide) gc o6 (by rw [o8,e])
  have n78:gk≠gx:=fun e=>hap 7 8 (by decide) (by decide) (by decide) gk o7 (by rw [o8,e])
  refine ⟨trivial,?_⟩
  have hX:(fc b 64).length=64:=wh b 64
  have hK:zd.length=64:=rfl
  generalize fc b 64=X at *
  generalize zd=K at *
  refine a6p (E':= [(0,.pointer (some ⟨ga,0,none⟩)),(4,.pointer (some ⟨gc,0,none⟩)),(5,.pointer (some ⟨gk,0,none⟩)),(6,.pointer (some ⟨gx,0,none⟩)),(13,.agg (ee A).toArray),(14,.agg (ee K).toArray),(16,.agg (ee X).toArray)])
   ⟨by kernel_rfl,by rw [← v6];kernel_rfl,by rw [← v7];kernel_rfl,by rw [← v8];kernel_rfl,by rw [← v2];kernel_rfl,by rw [← v3];kernel_rfl,by rw [← v5];kernel_rfl,trivial⟩ ?_
  refine agm (vs:=ee A) Z Z Z Z Z Z Z (by rw [hA8];rfl) (nv _) B6 (by rw [hA8];rfl) ?_
  intro w6 C6 f6 z6
  refine ⟨trivial,?_⟩
  refine agm (vs:=ee K) Z Z Z Z Z Z Z (by rw [j6,hK];rfl) (nv _) (B7.fr f6 (by omega)) (by rw [j6,hK];rfl) ?_
  intro w7 C7 f7 z7
  refine ⟨trivial,?_⟩
  refine agm (vs:=ee X) Z Z Z Z Z Z Z (by rw [j6,hX];rfl) (nv _) ((B8.fr f6 (by omega)).fr f7 (by omega)) (by rw [j6,hX];rfl) ?_
  intro w8 C8 f8 z8
  refine ⟨trivial,lu (a5q (E':= [(0,.pointer (some ⟨ga,0,none⟩)),(4,.pointer (some ⟨gc,0,none⟩)),(5,.pointer (some ⟨gk,0,none⟩)),(6,.pointer (some ⟨gx,0,none⟩))]) ⟨rfl,rfl,rfl,rfl,trivial⟩ (H w8 gc gk gx ?_ l6.1 l7.1 l8.1 n67 n68 n78 ((C6.fr f7 (by omega)).fr f8 (by omega)) (C7.fr f8 (by omega)) C8))⟩
  exact ((hE.trans' f6 (fun j hj h=>by omega)).trans' f7 (fun j hj h=>by omega)).trans' f8 (fun j hj h=>by omega)

theorem asz {vb:Value} {A b:List Int} {rest:List Value} {ga ta:Nat} {w:World} (hb:VL (Value.int .u8) w vb b) (hl:64≤b.length) (hA:A.length=8) (BA:Blk w ga ta (ee A++rest)) :
  Calls Tryz.prog p7 #[.pointer (some ⟨ga,0,none⟩),vb] w fun e w'=>(∃ v,e = .returned v)∧Blk w' ga ta (ee (qp A b)++rest)∧Fr (· = ga) w w':=by
 have hM:qp A b=upd A (acg (toW A) zd (fc b 64) 64).l 8:=rfl
 have hX:(fc b 64).length=64:=wh b 64
 have hK:zd.length=64:=rfl
 rw [hM]
 refine pz Tryz.func141 Z Z <| dc <| asy hb hl hA BA ?_
 intro w8 gc gk gx e08 g1 g2 g3 n1 n2 n3 BC BK BX
 generalize fc b 64=X at *
 generalize zd=K at *
 have hga:ga<w.heap.size:=BA.lt
 replace BC:Blk w8 gc jy (ee (acg (toW A) K X 0).l):=by
  rwa [show (acg (toW A) K X 0).l=A from a48 A hA]
 refine bn <| ss <| sr <| o_p Z Z Z <| on ?_
 refine iq (vk (G:=Nat) (fun i=> [(0,.pointer (some ⟨ga,0,none⟩)),(4,.pointer (some ⟨gc,0,none⟩)),(5,.pointer (some ⟨gk,0,none⟩)),(6,.pointer (some ⟨gx,0,none⟩)),(17,.int .i64 (i:Int))])
  (fun i W=>Ext w W∧Blk W gc jy (ee (acg (toW A) K X i).l)∧Blk W gk en (ee K)∧Blk W gx en (ee X)∧i≤64) (fun i=>64 - i) ?_ ?_)
 ·exact ⟨0,⟨rfl,rfl,rfl,rfl,rfl,trivial⟩,e08,BC,BK,BX,by omega⟩
 rintro i W ⟨hE,BC,BK,BX,hi⟩
 try dsimp only
 refine sr <| o_p Z Z Z <| on ?_
 refine dc (qv Z (fun h=> ?_) (fun h=> ?_))
 ·have hnx:acg (toW A) K X (i+1)=rnd (acg (toW A) K X i) (K.getD i 0) (X.getD i 0):=rfl
  generalize hs:acg (toW A) K X i=s at *
  generalize hki:K.getD i 0=ki at *
  generalize hxi:X.getD i 0=xi at *
  have ck:∀ W',Ext W W'→W'.cell? ⟨gk,0+i,none⟩=some (.int .u32 ki):=fun W' hW'=>by
   rw [Nat.zero_add,← hki];exact Ext.cell hW' ((BK.cell i).trans (acf K i (by omega)))
  have cx:∀ W',Ext W W'→W'.cell? ⟨gx,0+i,none⟩=some (.int .u32 xi):=fun W' hW'=>by
   rw [Nat.zero_add,← hxi];exact Ext.cell hW' ((BX.cell i).trans (acf X i (by omega)))
  have cc:∀ W',Ext W W'→∀ j,W'.cell? ⟨gc,j,none⟩=(ee s.l)[j]?:=fun W' hW' j=>(BC.ext hW').cell j
  refine jg <| bn <| dc <| iq <| dc <| bx <| o_p Z Z Z <| o_p Z Z Z ?_
  have d1:Ext W W.drew:=Fr.drew _
  refine dh <| bn <| dc <| m0 flo (fun W'=>Ext W W') (by decide +kernel) d1 <| nj (7) Z Z Z Z (by omega) (by omega) <| gt Z Z (fun W' hW'=>bm Z Z Z (cc W' hW' 7)) Z <| nj (4) Z Z Z Z (by omega) (by omega) <| gt Z Z (fun W' hW'=>bm Z Z Z (cc W' hW' 4)) Z <| lm Z Z (dm Z) Z <| (lg _ 6 (by decide) (by decide) _).mono ?_
  rintro _ _ ⟨rfl,rfl⟩;refine ⟨_,rfl,d1,?_⟩
  refine nj (4) Z Z Z Z (by omega) (by omega) <| gt Z Z (fun W' hW'=>bm Z Z Z (cc W' hW' 4)) Z <| lm Z Z (dm Z) Z <| (lg _ 11 (by decide) (by decide) _).mono ?_
  rintro _ _ ⟨rfl,rfl⟩;refine ⟨_,rfl,d1,?_⟩
  refine d_p Z Z Z Z <| nj (4) Z Z Z Z (by omega) (by omega) <| gt Z Z (fun W' hW'=>bm Z Z Z (cc W' hW' 4)) Z <| lm Z Z (dm Z) Z <| (lg _ 25 (by decide) (by decide) _).mono ?_
  rintro _ _ ⟨rfl,rfl⟩;refine ⟨_,rfl,d1,?_⟩
  refine d_p Z Z Z Z <| d_p Z Z Z Z <| nj (4) Z Z Z Z (by omega) (by omega) <| gt Z Z (fun W' hW'=>bm Z Z Z (cc W' hW' 4)) Z <| nj (5) Z Z Z Z (by omega) (by omega) <| gt Z Z (fun W' hW'=>bm Z Z Z (cc W' hW' 5)) Z <| d_p Z Z Z Z <| nj (4) Z Z Z Z (by omega) (by omega) <| gt Z Z (fun W' hW'=>bm Z Z Z (cc W' hW' 4)) Z <| d_p Z Z Z Z <| nj (6) Z Z Z Z (by omega) (by omega) <| gt Z Z (fun W' hW'=>bm Z Z Z (cc W' hW' 6)) Z <| d_p Z Z Z Z <| d_p Z Z Z Z <| d_p Z Z Z Z <| d_p Z Z Z Z <| nj (i) Z Z Z Z (by omega) (by omega) <| gt Z Z (fun W' hW'=>bm Z Z Z (ck W' hW')) Z <| d_p Z Z Z Z <| d_p Z Z Z Z <| nj (i) Z Z Z Z (by omega) (by omega) <| gt Z Z (fun W' hW'=>bm Z Z Z (cx W' hW')) Z <| d_p Z Z Z Z <| d_p Z Z Z Z ?_
  have d2:Ext W W.drew.drew:=d1.trans (Fr.drew _)
  refine lu <| bn <| dc <| m0 flo (fun W'=>Ext W W') (by decide +kernel) d2 <| nj (0) Z Z Z Z (by omega) (by omega) <| gt Z Z (fun W' hW'=>bm Z Z Z (cc W' hW' 0)) Z <| lm Z Z (dm Z) Z <| (lg _ 2 (by decide) (by decide) _).mono ?_
  rintro _ _ ⟨rfl,rfl⟩;refine ⟨_,rfl,d2,?_⟩
  refine nj (0) Z Z Z Z (by omega) (by omega) <| gt Z Z (fun W' hW'=>bm Z Z Z (cc W' hW' 0)) Z <| lm Z Z (dm Z) Z <| (lg _ 13 (by decide) (by decide) _).mono ?_
  rintro _ _ ⟨rfl,rfl⟩;refine ⟨_,rfl,d2,?_⟩
  refine d_p Z Z Z Z <| nj (0) Z Z Z Z (by omega) (by omega) <| gt Z Z (fun W' hW'=>bm Z Z Z (cc W' hW' 0)) Z <| lm Z Z (dm Z) Z <| (lg _ 22 (by decide) (by decide) _).mono ?_
  rintro _ _ ⟨rfl,rfl⟩;refine ⟨_,rfl,d2,?_⟩
  refine d_p Z Z Z Z <| nj (0) Z Z Z Z (by omega) (by omega) <| gt Z Z (fun W' hW'=>bm Z Z Z (cc W' hW' 0)) Z <| nj (1) Z Z Z Z (by omega) (by omega) <| gt Z Z (fun W' hW'=>bm Z Z Z (cc W' hW' 1)) Z <| d_p Z Z Z Z <| nj (0) Z Z Z Z (by omega) (by omega) <| gt Z Z (fun W' hW'=>bm Z Z Z (cc W' hW' 0)) Z <| nj (2) Z Z Z Z (by omega) (by omega) <| gt Z Z (fun W' hW'=>bm Z Z Z (cc W' hW' 2)) Z <| d_p Z Z Z Z <| d_p Z Z Z Z <| nj (1) Z Z Z Z (by omega) (by omega) <| gt Z Z (fun W' hW'=>bm Z Z Z (cc W' hW' 1)) Z <| nj (2) Z Z Z Z (by omega) (by omega) <| gt Z Z (fun W' hW'=>bm Z Z Z (cc W' hW' 2)) Z <| d_p Z Z Z Z <| d_p Z Z Z Z <| d_p Z Z Z Z <| d_p Z Z Z Z <| lu <| bn <| bx <| o_p Z Z Z <| o_p Z Z Z <| o_p Z Z Z <| aid (0) Z Z Z (by omega) (by omega) <| dr Z (bm Z Z Z (cc _ d2 0)) Z <| aid (1) Z Z Z (by omega) (by omega) <| dr Z (bm Z Z Z (cc _ d2 1)) Z <| aid (2) Z Z Z (by omega) (by omega) <| dr Z (bm Z Z Z (cc _ d2 2)) Z <| aid (3) Z Z Z (by omega) (by omega) <| dr Z (bm Z Z Z (cc _ d2 3)) Z <| o_p Z Z Z <| o_p Z Z Z <| aid (4) Z Z Z (by omega) (by omega) <| dr Z (bm Z Z Z (cc _ d2 4)) Z <| aid (5) Z Z Z (by omega) (by omega) <| dr Z (bm Z Z Z (cc _ d2 5)) Z <| aid (6) Z Z Z (by omega) (by omega) <| dr Z (bm Z Z Z (cc _ d2 6)) Z <| o_b Z Z Z <| avx (vs:=ee (rnd s ki xi).l) Z Z Z Z Z Z Z (nv _) (BC.ext d2) Z ?_
  intro W9 B9 f9 z9
  refine dh <| kq <| bn <| bx ?_
  refine o_c Z Z Z (by unfold I64;omega) ?_
  refine o_p Z Z Z ?_
  have hsz:=d2.size
  refine (dh (p8 (i+1) ?_ ?_ ?_))
  ·exact ⟨rfl,rfl,rfl,rfl,rfl,trivial⟩
  ·refine ⟨(hE.trans d2).trans' f9 (fun j hj h=>by omega),?_,(BK.ext d2).fr f9 (by omega),(BX.ext d2).fr f9 (by omega),by omega⟩
   rw [hnx];exact B9
  ·show 64 - (i+1)<64 - i;omega
 ·obtain rfl:i=64:=by omega
  generalize hC:(acg (toW A) K X 64).l=C at *
  have hC8:C.length=8:=by rw [← hC];rfl
  refine re <| jr <| j9 <| jj <| bn <| dc <| bx <| o_p Z Z Z <| on ?_
  refine iq (vk (G:=Nat) (fun i=> [(0,.pointer (some ⟨ga,0,none⟩)),(4,.pointer (some ⟨gc,0,none⟩)),(105,.int .i64 (i:Int))])
   (fun i W=>Fr (· = ga) w W∧Blk W ga ta (ee (upd A C i)++rest)∧Blk W gc jy (ee C)∧i≤8) (fun i=>8 - i) ?_ ?_)
  ·exact ⟨0,⟨rfl,rfl,rfl,trivial⟩,Ext.fr hE,by rw [aql A C hA];exact BA.ext hE,BC,by omega⟩
  rintro i W ⟨hE,BA,BC,hi⟩
  try dsimp only
  refine sr <| o_p Z Z Z <| on ?_
  refine dc (qv Z (fun h=> ?_) (fun h=> ?_))
  ·have d1:Ext W W.drew:=Fr.drew _
   have hu8:(ee (upd A C i)).length=8:=by rw [j6,rx]
   have ca:W.drew.cell? ⟨ga,0+i,none⟩=some (.int .u32 (A.getD i 0)):=by
    rw [Nat.zero_add,(BA.ext d1).cell i,List.getElem?_append_left (by omega),acf _ _ (by rw [rx];omega),ais _ _ _ _ (by omega),if_neg (by omega)]
   have cc:W.drew.cell? ⟨gc,0+i,none⟩=some (.int .u32 (C.getD i 0)):=by
    rw [Nat.zero_add,(BC.ext d1).cell i,acf _ _ (by omega)]
   have cf:W.drew.frozen? ⟨ga,0+i,none⟩=false:=(BA.ext d1).frozen _
   refine jg <| bn <| dc <| iq <| dc <| bx <| o_p Z Z Z <| o_p Z Z Z ?_
   have hgag:ga≠gc:=by omega
   refine dh <| bn <| apd flo 11 (fun W'=>(W'.cell? ⟨gc,0+i,none⟩=some (.int .u32 (C.getD i 0)))∧(W'.cell? ⟨ga,0+i,none⟩=some (.int .u32 (A.getD i 0)))) (fun _=>True) Z (by decide +kernel) ⟨cc,ca⟩ <| d_p Z Z Z Z <| d_p Z Z Z Z <| d_p Z Z Z Z <| nj (i) Z Z Z Z (by omega) (by omega) <| gt Z Z (fun W' hW'=>bm Z Z Z (hW'.2)) Z <| d_p Z Z Z Z <| nj (i) Z Z Z Z (by omega) (by omega) <| gt Z Z (fun W' hW'=>bm Z Z Z (hW'.1)) Z <| d_p Z Z Z Z <| d_p Z Z Z Z <| nj (i) Z Z Z Z (by omega) (by omega) <| lu <| ape Z trivial <| apa Z Z (ub Z Z Z Z Z ca cf) trivial <| lu <| kq <| bn <| bx ?_
   refine o_c Z Z Z (by unfold I64;omega) ?_
   refine o_p Z Z Z ?_
   have Bs:=(BA.ext d1).set i (.int .u32 (my (A.getD i 0) (C.getD i 0)))
   rw [List.set_append_left _ _ (by omega)] at Bs
   have hset:(ee (upd A C i)).set i (.int .u32 (my (A.getD i 0) (C.getD i 0)))=ee (upd A C (i+1)):=by
    rw [← aut A C i (by omega)];simp [ee,List.map_set]
   rw [hset] at Bs
   have hzz:0+yw i 1=i:=by rw [bi];omega
   refine (dh (p8 (i+1) ?_ ?_ ?_))
   ·exact ⟨rfl,rfl,rfl,trivial⟩
   ·refine ⟨(hE.trans (Ext.fr d1)).trans (Fr.setCell W.drew ⟨ga,_,none⟩ _),?_,(BC.ext d1).fr (Fr.setCell _ _ _) (by simp;omega),by omega⟩
    rw [hzz];exact Bs
   ·show 8 - (i+1)<8 - i;omega
  ·refine re <| jr <| j9 <| jj <| at7 Z ⟨⟨_,rfl⟩,?_,hE⟩
   obtain rfl:i=8:=by omega
   exact BA

def oe (a:List Int) (r:Value) (n:Int) (m:Bool):List Value:=ee a ++ [r,.int .i64 n,.bool m]
theorem a2n (a:List Int) (r:Value) (n:Int) (m:Bool) (h:a.length=8):(oe a r n m)[8]? = some r∧(oe a r n m)[9]? = some (.int .i64 n)∧(oe a r n m)[10]? = some (.bool m):=by
 match a,h with
 | [_, _, _, _, _, _, _, _], _ => exact ⟨rfl, rfl, rfl⟩

theorem amg {g t:Nat} {a:List Int} {r:Value} {n:Int} {m:Bool} {w:World} (hB:Blk w g t (oe a r n m)) (ha:a.length=8) :
  Calls Tryz.prog afi #[.pointer (some ⟨g,0,none⟩)] w fun e w'=>e = .returned (.bool (!m))∧w=w':=by
 have h10:=(hB.cell 10).trans (a2n a r n m ha).2.2
 refine aee Tryz.func140 Z Z <| sr <| o_p Z Z Z <| on <| sr <| o_p Z Z Z <| o_n Z Z Z <| o_p Z Z Z <| o_p Z Z Z <| o_p Z Z Z <| o_p Z Z Z <| dr Z (bm Z Z Z (h10)) Z <| o_p Z Z Z <| o_p Z Z Z <| o_p Z Z Z ?_
 exact (dh (bn (dq (eo Z Z ⟨rfl,rfl⟩))))

theorem ay8 (w:World):Calls Tryz.prog amd #[] w fun e w'=>∃ g,e = .returned (.pointer (some ⟨g,0,none⟩))∧w.heap.size≤g∧Blk w' g kp (oe ld (.slice none 0 0) 0 true)∧Ext w w':=by
 refine anc Tryz.func82 Z Z <| sr <| o_p Z Z Z <| on <| sr <| ia Z (dm Z) Z <| (asx w).mono ?_
 rintro _ w1 ⟨rfl,e1⟩;refine ⟨_,rfl,?_⟩
 refine yv (v:= .agg ⟨oe ld (.slice none 0 0) 0 true⟩) Z (qk (by kernel_rfl)) Z ?_
 refine axy Z Z Z Z ?_
 intro w2 B2 e2 z2
 refine o_p Z Z Z ?_
 exact (dh (bn (dq (eo Z Z ⟨_,rfl,e1.size,B2,e1.trans e2⟩))))

abbrev u8s (l:List Int):List Value:=l.map (Value.int .u8)
theorem dt (l:List Int):∀ u∈u8s l,u.oneCell'=true:=by intro u hu;obtain ⟨x,_,rfl⟩:=List.mem_map.1 hu;rfl
def fm:Nat→List Int→List Int→List Int × List Int
 | 0, a, l => (a, l)
 | k + 1, a, l => if 64 ≤ l.length then fm k (qp a (l.take 64)) (l.drop 64) else (a, l)
theorem pc (k:Nat) (a l:List Int) (h:l.length<64):fm k a l=(a,l):=by
 cases k with
 | zero => rfl
 | succ k => rw [fm, if_neg (by omega)]

abbrev MB (w:World) (base:Nat) (v:Value) (l:List Int):Prop:=kd w base pq 1 v l.length (u8s l)
theorem kd.made0 (w:World):MB (w.alloc (.cells #[] pq)) w.heap.size (.slice (some ⟨w.heap.size,0,none⟩) 0 0) []:=World.ownsRow_made w #[] 0 (Nat.le_refl _) (by decide) (by rfl)

theorem aey {va:Value} {xs:List Int} {w:World} (ha:VL (Value.int .u8) w va xs) (hlen:xs.length≤1048576) :
  Calls Tryz.prog alj #[va] w fun e w'=>∃ v,e = .returned v∧MB w' w.heap.size v xs∧Ext w w':=by
 obtain ⟨A,c,rfl,hnc,hcm,hz,hcell⟩:=ha.op
 refine aee Tryz.func92 Z Z <| sr <| o_p Z Z Z <| on <| ss <| sr <| o_p Z Z Z <| o_n Z Z Z ?_
 cases A with
 | none =>
  have h0:xs = []:=List.eq_nil_of_length_eq_zero (by have:=hz Z;omega)
  subst h0
  refine on <| we Z <| sr <| o_p Z Z Z ?_
  exact (dh (bn (dq (eg (eo Z Z ⟨_,rfl,kd.nil _ _ _ _,Fr.refl _ _⟩)))))
 | some a =>
  refine on <| wg Z <| jg <| bn <| sr ?_
  refine dr Z (jk (vs:= []) (cells:= []) Z Z Z Z (by decide) (fun z hz=>by simp at hz;subst hz;rfl)) Z ?_
  refine o_p Z Z Z ?_
  refine agi Z Z Z Z Z Z Z Z (kd.made0 w) (ha.ext (Fr.alloc _ _)) (dt _) (by simp;omega) (by simp) ?_
  intro v' w' own fr
  refine o_p Z Z Z ?_
  refine on (dq (eo Z Z ⟨_,rfl,by simpa [MB,u8s] using own,?_⟩))
  exact Fr.trans' (Fr.alloc _ _) fr (by intro j hj h;simp [Value.ownBlock] at h;omega)

theorem hC8 {a:List Int} {r:Value} {n:Int} {m:Bool} (h:a.length=8):nth (oe a r n m) 8=some r:=by
 match a,h with
 | [_, _, _, _, _, _, _, _], _ => rfl
theorem hC9 {a:List Int} {r:Value} {n:Int} {m:Bool} (h:a.length=8):nth (oe a r n m) 9=some (.int .i64 n):=by
 match a,h with
 | [_, _, _, _, _, _, _, _], _ => rfl
theorem hS8 {a:List Int} {r r':Value} {n:Int} {m:Bool} (h:a.length=8):stO (oe a r n m) 8 r'=some (oe a r' n m):=by
 match a,h with
 | [_, _, _, _, _, _, _, _], _ => rfl
theorem hS9 {a:List Int} {r:Value} {n n':Int} {m:Bool} (h:a.length=8):stO (oe a r n m) 9 (.int .i64 n')=some (oe a r n' m):=by
 match a,h with
 | [_, _, _, _, _, _, _, _], _ => rfl
abbrev rB (v:Value) (l:List Int):SP:=row pq 1 v l.length (u8s l)
theorem a6r (v:Value) (l m:List Int):row pq 1 v (l.length+m.length) (u8s l++u8s m)=rB v (l++m):=by simp [rB,u8s]
theorem auu {b:World} {F:List SP} {vb:Value} {A l:List Int} {rest:List Value} {ga ta:Nat} (hb:∀ w,Sat b (pt ga ta (ee A++rest)::F) w→VL (Value.int .u8) w vb l) (hl:64≤l.length) (hA:A.length=8) :
  SC Tryz.prog p7 [.pointer (some ⟨ga,0,none⟩),vb] b (pt ga ta (ee A++rest)::F) (fun _ F'=>F'=pt ga ta (ee (qp A l)++rest)::F) :=
 fun w H=>(asz (hb w H) hl hA (H.blk (k:=0) Z)).mono fun _ _ ⟨⟨v,hv⟩,B,f⟩=>⟨v,_,hv,rfl,H.write (k:=0) Z f B rfl⟩

theorem ay9 {b:World} {F:List SP} {vb:Value} {A l:List Int} {ga ta:Nat} (hb:∀ w,Sat b (pt ga ta (ee A)::F) w→VL (Value.int .u8) w vb l) (hl:64≤l.length) (hA:A.length=8) :
  SC Tryz.prog p7 [.pointer (some ⟨ga,0,none⟩),vb] b (pt ga ta (ee A)::F) (fun _ F'=>F'=pt ga ta (ee (qp A l))::F):=by
 have:=auu (b:=b) (F:=F) (vb:=vb) (A:=A) (l:=l) (rest:= []) (ga:=ga) (ta:=ta) (by rw [List.append_nil];exact hb) hl hA
 rwa [List.append_nil,List.append_nil] at this

theorem a2o {b:World} {F:List SP} {g:Nat} {a rs xs:List Int} {r vb:Value} {n:Int} (ha:a.length=8) (hn:0≤n∧n≤1048576) (hlen:rs.length+xs.length≤1048576) (hb:∀ w,Sat b F w→VL (Value.int .u8) w vb xs) :
  SC Tryz.prog aer [.pointer (some ⟨g,0,none⟩),vb] b (pt g kp (oe a r n true)::rB r rs::F) (fun v F'=>v = .int .i64 0 ∧
   ∃ r',F'=pt g kp (oe (fm (rs.length+xs.length) a (rs++xs)).1 r' (n+xs.length) true)::rB r' (fm (rs.length+xs.length) a (rs++xs)).2::F):=by
 refine bf Tryz.func83 Z Z Z <| bt (fun w H=>(hb w (H.ent (ac 2 [] Z Z))).form) ?_
 rintro ⟨A,c,rfl,h1,h2,h3,h4⟩
 refine bd4 <| af Z <| bd3 <| ae <| bd4 <| af Z <| bh Z Z Z (SC.ofEq fun w H=>amg (H.blk (k:=0) Z) ha) <| bd3 <| al Z <| ao <| aa <| bd4 <| bgj Z Z Z <| kr 0 Z Z Z Z Z Z (hC9 ha) Z <| bgi Z Z <| b5 Z (by (unfold I64;omega)) <| bgi Z Z <| ae8 0 Z Z Z Z Z Z Z Z (hS9 ha) Z <| a8r <| bgj Z Z Z <| af Z <| kr 0 Z Z Z Z Z Z (hC8 ha) Z <| af Z <| dx 1 Z Z Z Z Z Z Z Z Z (fun w H=>hb w (H.ent (ac 2 [] Z Z))) (dt _) (by omega) (fun _=>rfl) fun r'=> ?_
 rw [a6r]
 refine bgi Z Z <| b9 (fun w H=>(H.oat (k:=1) Z).one) fun h1=>ae8 0 Z Z Z Z Z Z h1 Z (hS8 ha) Z <| bd3 <| ae <| ar ?_
 refine b6 (S:=List Int × List Int × Value) (fun s=> [(0,.pointer (some ⟨g,0,none⟩))]) (fun s=>pt g kp (oe s.1 s.2.2 (n+xs.length) true)::rB s.2.2 s.2.1::F)
  (fun s=>s.1.length=8∧s.2.1.length≤1048576∧∃ k,s.2.1.length≤k∧fm k s.1 s.2.1=fm (rs.length+xs.length) a (rs++xs)) (fun s=>s.2.1.length) (a,rs++xs,r') ⟨rfl,trivial⟩ (Ent.refl _)
  ⟨ha,by simp;omega,rs.length+xs.length,by simp,rfl⟩ ?_
 rintro ⟨a',l,r2⟩ ⟨ha',hl,k,hk,hab⟩
 dsimp only at ha' hl hk hab ⊢
 refine bt (fun w H=>(H.oat (k:=1) Z).form) ?_
 rintro ⟨A2,c2,rfl,hc1,hc2,hc3⟩
 refine ae <| bd4 <| bgj Z Z Z <| kr 0 Z Z Z Z Z Z (hC8 ha') Z <| bgi Z Z <| bd3 ?_
 refine di Z (fun h=> ?_) (fun h=> ?_)
 ·have hl64:64≤l.length:=by omega
  obtain ⟨g2,off2,rfl⟩:=hc3 (by omega)
  have htk:(u8s l).take (64*1)=u8s (l.take 64):=by simp [u8s,List.map_take]
  have hdk:(u8s l).drop (64*1)=u8s (l.drop 64):=by simp [u8s,List.map_drop]
  have ht64:(l.take 64).length=64:=by simp;omega
  refine ao <| aa <| ar <| ae <| kt flo 8 (pt g kp (oe a' (.slice (some ⟨g2,off2,none⟩) l.length c2) (n+xs.length) true)::F) [] Z (by decide +kernel) (ac 2 [0] Z Z) ?_
  (iterate 6 refine ay Z Zl ?_)
  refine nl 0 Z Z Z Z Z Z (hC8 ha') Z Z <| dj Z Z (by omega) <| az <| ku Z (dw _) ?_
  refine dz Z Z Z Z (auu (A:=a') (l:=l.take 64) (rest:= [.slice (some ⟨g2,off2,none⟩) l.length c2,.int .i64 (n+xs.length),.bool true]) (fun w H=> ?_) (by omega) ha') ?_
  ·have:=(Oat.take (H.oat (k:=1) Z) (k:=64) hl64).sl
   rw [htk] at this
   unfold VL;rw [ht64];exact this
  rintro _ _ rfl
  refine ⟨dw _,az ?_⟩
  have hb8:=aar a' (l.take 64)
  obtain ⟨a2,ha2⟩:∃ a2,a2=qp a' (l.take 64):=⟨_,rfl⟩
  rw [← ha2] at hb8 ⊢
  refine aa <| ab <| bgj Z Z Z <| af Z <| kr 0 Z Z Z Z Z Z (hC8 hb8) Z <| b5 Z (by omega) <| bgi Z Z <| fq (ae7 (j:=64) hl64 1 Z Z Z) ?_
  rw [hdk]
  refine ae8 0 Z Z Z Z Z Z Z Z (hS8 hb8) Z <| ad <| ba ?_
  refine bj (a2,l.drop 64,.slice (if c2=64 then some ⟨g2,off2,none⟩ else (some ⟨g2,off2,none⟩:Option Addr).map (·.add (64*1))) (l.length - 64) (c2 - 64)) ⟨rfl,trivial⟩ ?_ ?_ ?_
  ·have e:(l.drop 64).length=l.length - 64:=by simp
   exact pk 1 Z (fun h hA=>by dsimp only [rB];rw [e];exact hA) Z
  ·refine ⟨hb8,by simp;omega,?_⟩
   cases k with
   | zero => omega
   | succ k =>
    refine ⟨k,by simp;omega,?_⟩
    rw [← hab]
    show _=fm (k+1) a' l
    rw [fm,if_pos hl64,ha2]
  ·show (l.drop 64).length<l.length
   simp;omega
 ·refine bu <| av <| ax <| au <| aa <| bd4 <| af Z <| bd3 <| aj ?_
  have he:=pc k a' l (by omega)
  rw [hab] at he
  refine ai Z (.tmp Z .nil) (Ent.refl _) <| ⟨rfl,.slice A2 l.length c2,?_⟩
  rw [he]

theorem bdh {b:World} {F:List SP}:SC Tryz.prog amd [] b F (fun v F'=>∃ g,v = .pointer (some ⟨g,0,none⟩)∧F'=pt g kp (oe ld (.slice none 0 0) 0 true)::rB (.slice none 0 0) []::F) :=
 fun w H=>(ay8 w).mono fun _ w' ⟨g,h1,h2,B,x⟩=>⟨_,_,h1,⟨g,rfl,rfl⟩,(H.newOat (Fr.refl _ _) (Oat.nil w w.heap.size pq 1)).alloc x B h2⟩

theorem qq {F G:List SP} {v:Value} {n:Nat} {cs:List Value} {l:List Int} (k:Nat) (hk:nth F k=some (row pq 1 v n cs)) (hl:n=l.length) (hc:cs=u8s l) (hG:jv F k (rB v l)=some G):Ent F G:=by
 subst hl;subst hc;exact pk k hk (fun _ h=>h) hG
theorem vlB {b:World} {F:List SP} {v:Value} {l:List Int} {k:Nat} (hk:nth F k=some (rB v l)):∀ w,Sat b F w→VL (Value.int .u8) w v l:=fun w H=>(H.oat hk).sl
theorem vl1 {b:World} {F:List SP} {g t:Nat} {l:List Int} {n k:Nat} (hn:n=l.length) (hm:n≤67108864) (hk:nth F k=some (pt g t (u8s l))):∀ w,Sat b F w→VL (Value.int .u8) w (.slice (some ⟨g,0,none⟩) n n) l:=fun w H=>by
 subst hn
 exact (H.blk hk).sl (by simp) hm

theorem bg (l:List Int):(u8s l).length=l.length:=by simp [u8s]
def mt (l:List Int):Nat:=(120 - (l.length+1) % 64) % 64
def aj4 (n:Int) (i:Nat):Int:=IntKind.u8.wrap ((IntKind.u64.wrap (IntKind.u64.wrap n*8)).fdiv (2 ^ (56 - 8*i)))
def ze (n:Int) (i:Nat):List Int:=(List.range i).map (aj4 n)
def ach (l:List Int) (n:Int):List Int:=l ++ [128]++List.replicate (mt l) 0++ze n 8
def idB (a:List Int) (i:Nat):Int:=IntKind.u8.wrap ((a.getD (i / 4) 0).fdiv (2 ^ (24 - 8*(i % 4))))
def idM (a:List Int):List Int:=(List.range 32).map (idB a)
def idP (a:List Int) (i:Nat):List Int:=(List.range i).map (idB a)++List.replicate (32 - i) 0
theorem auv (a:List Int) (i:Nat) (h:i≤32):(idP a i).length=32:=by simp [idP];omega
theorem auw (a:List Int) (i:Nat) (h:i<32):(u8s (idP a i)).set i (.int .u8 (idB a i))=u8s (idP a (i+1)):=by
 have e:32 - i=(32 - (i+1))+1:=by omega
 simp only [u8s,← List.map_set,idP]
 rw [List.set_append_right _ _ (by simp),e,List.replicate_succ,List.range_succ]
 simp
theorem aux (a:List Int):idP a 32=idM a:=by simp [idP,idM]
theorem aqm (l:List Int) (n:Int):(ach l n).length % 64=0∧(ach l n).length≤l.length+80:=by
 simp only [ach,ze,mt,List.length_append,List.length_replicate,List.length_map,List.length_range,List.length_cons,List.length_nil]
 omega
def as0 (a l:List Int) (n:Int):List Int:=(fm (ach l n).length a (ach l n)).1
abbrev idV (l:List Int):Value:= .agg ⟨u8s l⟩
theorem a6s (k:Nat):Int.tmod (k:Int) 64=((k % 64:Nat):Int):=by
 rw [Int.tmod_eq_emod_of_nonneg (by omega)];omega
theorem hCw {a:List Int} {r:Value} {n:Int} {m:Bool} (h:a.length=8):pn (oe a r n m) 0 8=some (ee a):=by
 match a,h with
 | [_, _, _, _, _, _, _, _], _ => rfl
theorem as1 {a:List Int} {j:Nat} (h:j<a.length):nth (ee a) j=some (.int .u32 (a.getD j 0)):=by rw [iw];exact acf a j h
theorem aci {cs r:List Value} {o:Nat} {v:Value} (h:o<cs.length) (hr:cs.set o v=r):stO cs o v=some r:=by
 subst hr
 induction cs generalizing o with
 | nil => simp at h
 | cons c cs ih =>
  cases o with
  | zero => rfl
  | succ o => simp only [stO, ih (by simpa using h)]; rfl
theorem fd {cs:List Value} {n:Nat} (h:n=cs.length):pn cs 0 n=some cs:=by
 subst h
 induction cs with
 | nil => rfl
 | cons c cs ih => simp only [List.length_cons, pn, ih]


theorem a6t {b:World} {F:List SP} {g:Nat} {a rs:List Int} {r:Value} {n:Int} (ha:a.length=8) (hlen:rs.length≤1000000) :
  SC Tryz.prog agw [.pointer (some ⟨g,0,none⟩)] b (pt g kp (oe a r n true)::rB r rs::F) (fun v F'=>v = .tuple ⟨[idV (idM (as0 a rs n)),.int .i64 0]⟩∧F'=pt g kp (oe a r n true)::rB r rs::F):=by
 have ha8:(ee a).length=8:=by rw [j6,ha]
 refine bf Tryz.func84 Z Z Z <| bd4 <| ek Z Z Z Z Z fun gi=>af Z <| bd3 <| ae <| bd4 <| af Z <| bh Z Z Z (SC.ofEq fun w H=>amg (H.blk (k:=1) Z) ha) <| bd3 <| al Z <| ao <| aa <| bd4 <| bgj Z Z Z <| dk 1 Z Z Z Z Z Z (hCw ha) Z <| ek Z Z Z Z Z fun ga=> ?_
 refine im 0 Z Z Z Z Z Z Z (by rw [ha8];rfl) (nv _) (by rw [ha8];rfl) ?_
 refine a8r <| bgj Z Z Z <| kr 2 Z Z Z Z Z Z (hC8 ha) Z <| bq Z Z Z (SC.ofMade fun w H=>aey (vlB (k:=3) Z w H) (by omega)) ?_
 rintro v4 _ rfl
 refine p5 [.int .u8 128] Z Z Z Z Z Z Z Z Z fun gl=> ?_
 refine dx 1 Z Z Z Z Z Z Z Z Z (vl1 (l:= [128]) (k:=0) Z (by decide) Z) (dt [128]) (by simp;omega) (fun _=>rfl) fun v5=> ?_
 refine fq ((qq (l:=rs ++ [128]) 1 Z (by simp) (by simp) Z).trans (ac 6 [1,2,3,4,5] Z Z)) ?_
 refine af Z <| bd3 <| ae <| ar ?_

 refine b6 (S:=Nat × Value) (fun s=> [(0,.pointer (some ⟨g,0,none⟩)),(2,.pointer (some ⟨gi,0,none⟩)),(4,.pointer (some ⟨ga,0,none⟩)),(5,s.2)])
  (fun s=>rB s.2 (rs ++ [128]++List.replicate s.1 0)::pt ga jy (ee a)::pt gi t_api_ID (u8s (List.replicate 32 0))::pt g kp (oe a r n true)::rB r rs::F)
  (fun s=>s.1≤mt rs) (fun s=>mt rs - s.1) (0,v5) ⟨rfl,rfl,rfl,rfl,trivial⟩ (qq 0 Z (by simp) (by simp) Z) (Nat.zero_le _) ?_
 rintro ⟨k,v⟩ hk
 dsimp only at hk ⊢
 have hL:(rs ++ [128]++List.replicate k 0).length=rs.length+1+k:=by simp;omega
 have hz:mt rs=(120 - (rs.length+1) % 64) % 64:=rfl
 refine bt (fun w H=>(H.oat (k:=0) Z).form) ?_
 rintro ⟨A7,c7,rfl,_,_,_⟩
 refine ae <| bd4 <| bgi Z Z <| b5 Z (by omega) <| af Z <| bd3 ?_
 refine abg Z (fun h=> ?_) (fun h=> ?_) <;> rw [a6s] at h
 ·refine ao <| aa <| ar <| ab <| af Z <| p5 [.int .u8 0] Z Z Z Z Z Z Z Z Z fun gl=> ?_
  refine dx 1 Z Z Z Z Z Z Z Z Z (vl1 (l:= [0]) (k:=0) Z (by decide) Z) (dt [0]) (by simp;omega) (fun _=>rfl) fun v8=> ?_
  refine fq ((qq (l:=rs ++ [128]++List.replicate (k+1) 0) 1 Z (by simp;omega) (by rw [List.replicate_succ'];simp) Z).trans (ac 6 [1,2,3,4,5] Z Z)) ?_
  refine af Z <| ad <| ba ?_
  refine bj (k+1,v8) ⟨rfl,rfl,rfl,rfl,trivial⟩ (Ent.refl _) ?_ ?_
  ·show k+1≤mt rs
   omega
  ·show mt rs - (k+1)<mt rs - k
   omega
 have h':(rs ++ [128]++List.replicate k 0).length % 64=56:=by omega
 rw [hL] at h'
 obtain rfl:k=mt rs:=by omega
 refine bu <| av <| ax <| au <| aa <| ae <| bd4 <| af Z <| bd3 <| ar ?_

 generalize hP:rs ++ [128]++List.replicate (mt rs) 0=p at *
 have hend:ach rs n=p++ze n 8:=by rw [ach,hP]
 have hpl:p.length≤1000100:=by omega
 refine b6 (S:=Nat × Value) (fun s=> [(0,.pointer (some ⟨g,0,none⟩)),(2,.pointer (some ⟨gi,0,none⟩)),(4,.pointer (some ⟨ga,0,none⟩)),(5,s.2),(29,.int .i64 (s.1:Int))])
  (fun s=>rB s.2 (p++ze n s.1)::pt ga jy (ee a)::pt gi t_api_ID (u8s (List.replicate 32 0))::pt g kp (oe a r n true)::rB r rs::F)
  (fun s=>s.1≤8) (fun s=>8 - s.1) (0,.slice A7 p.length c7) ⟨rfl,rfl,rfl,rfl,rfl,trivial⟩ (qq 0 Z (by simp [ze]) (by simp [ze]) Z) (Nat.zero_le _) ?_
 rintro ⟨k,v⟩ hk
 dsimp only at hk ⊢
 have hLL:∀ j,(ze n j).length=j:=fun j=>by simp [ze]
 refine bd4 <| af Z <| bd3 <| ae ?_
 refine di Z (fun h=> ?_) (fun h=> ?_)
 ·refine ao <| aa <| ae <| ar <| bd4 <| bgi Z Z <| bd3 <| ab <| bgj Z Z Z <| af Z <| kr 3 Z Z Z Z Z Z (hC9 ha) Z <| bgj Z Z Z ?_
  (iterate 2 refine b5 Z (by (unfold I64;omega)) ?_)
  refine b5 Z (by omega) <| af Z ?_
  have e:min (56 - 8*(k:Int)).toNat IntKind.u64.bits=56 - 8*k:=by
   show min _ 64=_
   omega
  refine a9 43 (.int .u8 (aj4 n k)) Z (by rw [aj4,e]) ?_
  refine p5 [.int .u8 (aj4 n k)] Z Z Z Z Z Z Z Z Z fun gl=> ?_
  refine dx 1 Z Z Z Z Z Z Z Z Z (vl1 (l:= [aj4 n k]) (k:=0) Z (by decide) Z) (dt [aj4 n k]) (by simp [hLL];omega) (fun _=>rfl) fun v8=> ?_
  refine fq ((qq (l:=p++ze n (k+1)) 1 Z (by simp [hLL];omega) (by simp [ze,List.range_succ]) Z).trans (ac 6 [1,2,3,4,5] Z Z)) ?_
  refine af Z <| ad <| ba <| aa <| ab <| b5 Z (by (unfold I64;omega)) <| af Z <| ad ?_
  refine bj (k+1,v8) ⟨rfl,rfl,rfl,rfl,rfl,trivial⟩ (Ent.refl _) ?_ ?_
  ·show k+1≤8
   omega
  ·show 8 - (k+1)<8 - k
   omega
 obtain rfl:k=8:=by omega
 refine bu <| av <| ax <| au <| aa <| ae <| ar ?_
 rw [← hend]
 have hEL:=aqm rs n
 generalize hE:ach rs n=l0 at *

 refine b6 (S:=List Int × List Int × Value) (fun s=> [(0,.pointer (some ⟨g,0,none⟩)),(2,.pointer (some ⟨gi,0,none⟩)),(4,.pointer (some ⟨ga,0,none⟩)),(5,s.2.2)])
  (fun s=>rB s.2.2 s.2.1::pt ga jy (ee s.1)::pt gi t_api_ID (u8s (List.replicate 32 0))::pt g kp (oe a r n true)::rB r rs::F)
  (fun s=>s.1.length=8∧s.2.1.length % 64=0∧s.2.1.length≤1000100∧∃ k,s.2.1.length≤k∧fm k s.1 s.2.1=fm l0.length a l0) (fun s=>s.2.1.length) (a,l0,v) ⟨rfl,rfl,rfl,rfl,trivial⟩ (Ent.refl _)
  ⟨ha,hEL.1,by dsimp only;omega,l0.length,Nat.le_refl _,rfl⟩ ?_
 rintro ⟨a',l,r2⟩ ⟨ha',hl64,hl,k,hk,hab⟩
 dsimp only at ha' hl hk hab hl64 ⊢
 refine bt (fun w H=>(H.oat (k:=0) Z).form) ?_
 rintro ⟨A2,c2,rfl,hc1,hc2,hc3⟩
 refine ae <| bd4 <| bgj Z Z Z <| bd3 ?_
 refine di Z (fun h=> ?_) (fun h=> ?_)
 ·have h64:64≤l.length:=by omega
  obtain ⟨g2,off2,rfl⟩:=hc3 (by omega)
  have htk:(u8s l).take (64*1)=u8s (l.take 64):=by simp [u8s,List.map_take]
  have hdk:(u8s l).drop (64*1)=u8s (l.drop 64):=by simp [u8s,List.map_drop]
  have ht64:(l.take 64).length=64:=by simp;omega
  refine ao <| aa <| ae <| ar <| ab <| af Z <| b5 Z (by omega) <| fq (ac 3 [1,0,2] Z Z) ?_
  refine bq Z Z Z (ay9 (A:=a') (l:=l.take 64) (fun w H=> ?_) (by omega) ha') ?_
  ·have:=(Oat.take (H.oat (k:=1) Z) (k:=64) h64).sl
   rw [htk] at this
   unfold VL;rw [ht64];exact this
  rintro _ _ rfl
  have hb8:=aar a' (l.take 64)
  refine ad <| ba <| aa <| ab <| af Z <| b5 Z (by omega) <| af Z <| ad <| lv (ae7 (j:=64) h64 1 Z Z Z) ?_
  rw [hdk]
  refine bj (qp a' (l.take 64),l.drop 64,.slice (if c2=64 then some ⟨g2,off2,none⟩ else (some ⟨g2,off2,none⟩:Option Addr).map (·.add (64*1))) (l.length - 64) (c2 - 64)) ⟨rfl,rfl,rfl,rfl,trivial⟩ ?_ ?_ ?_
  ·exact (qq (l:=l.drop 64) 1 Z (by simp) Z Z).trans (ac 3 [1,0,2] Z Z)
  ·refine ⟨hb8,by simp;omega,by simp;omega,?_⟩
   cases k with
   | zero => omega
   | succ k =>
    refine ⟨k,by simp;omega,?_⟩
    rw [← hab]
    show _=fm (k+1) a' l
    rw [fm,if_pos h64]
  ·show (l.drop 64).length<l.length
   simp;omega
 have hl0:l.length<64:=by omega
 have he:=pc k a' l hl0
 rw [hab] at he
 have hsum:as0 a rs n=a':=by rw [as0,hE,he]
 rw [hsum]
 refine bu <| av <| ax <| au <| aa <| ae <| bd4 <| af Z <| bd3 <| ar ?_

 refine b6 (S:=Nat) (fun s=> [(0,.pointer (some ⟨g,0,none⟩)),(2,.pointer (some ⟨gi,0,none⟩)),(4,.pointer (some ⟨ga,0,none⟩)),(55,.int .i64 (s:Int))])
  (fun s=>pt ga jy (ee a')::pt gi t_api_ID (u8s (idP a' s))::pt g kp (oe a r n true)::rB r rs::F)
  (fun s=>s≤32) (fun s=>32 - s) 0 ⟨rfl,rfl,rfl,rfl,trivial⟩ (ac 3 [1,2] Z Z) (Nat.zero_le _) ?_
 intro i hi
 have hpl:=auv a' i hi
 refine bd4 <| af Z <| bd3 <| ae ?_
 refine di Z (fun h=> ?_) (fun h=> ?_)
 ·refine ao <| aa <| ae <| ar <| bd4 <| bgi Z Z <| bd3 <| ab <| bgi Z Z <| b5 Z (by omega) ?_
  have htd:IntKind.i64.wrap ((i:Int).tdiv 4)=((i / 4:Nat):Int):=by
   rw [Int.tdiv_eq_ediv_of_nonneg (by omega),I64.wrap (by unfold I64;omega)];omega
  have htm:(i:Int).tmod 4=((i % 4:Nat):Int):=by
   rw [Int.tmod_eq_emod_of_nonneg (by omega)];omega
  refine a4e (i / 4) Z Z Z htd (by omega) ?_
  refine kr 0 Z Z Z Z Z Z (by rw [bi];simpa using as1 (a:=a') (j:=i / 4) (by omega)) Z ?_
  refine af Z <| b5 Z (by omega) ?_
  (iterate 2 refine b5 Z (by (unfold I64;omega)) ?_)
  refine b5 Z (by omega) <| af Z <| b5 Z (by omega) ?_
  have e:min (24 - 8*((i % 4:Nat):Int)).toNat IntKind.u32.bits=24 - 8*(i % 4):=by
   show min _ 32=_
   omega
  refine a9 68 (.int .u8 (idB a' i)) Z (by simp only [htm,e,idB,List.getD_eq_getElem?_getD]) ?_
  skip
  refine ae8 1 Z Z Z Z Z Z Z Z (aci (r:=u8s (idP a' (i+1))) (by rw [bi];simp [hpl];omega) (by rw [bi];simpa using auw a' i (by omega))) Z ?_
  refine ad <| ba <| aa <| ab <| b5 Z (by (unfold I64;omega)) <| af Z <| ad ?_
  refine bj (i+1) ⟨rfl,rfl,rfl,rfl,trivial⟩ (Ent.refl _) ?_ ?_
  ·show i+1≤32
   omega
  ·show 32 - (i+1)<32 - i
   omega
 obtain rfl:i=32:=by omega
 rw [aux] at *
 generalize idM a'=dg at *
 refine bu <| av <| ax <| au <| aa <| bd4 ?_
 have hseg:pn (u8s dg) 0 32=some (u8s dg):=fd (by simp [hpl])
 refine dk 1 Z Z Z Z Z Z hseg Z ?_
 refine im 1 Z Z Z Z Z Z Z (by rw [bg,hpl];rfl) (dt _) Z ?_
 refine af Z <| bd3 <| aj ?_
 refine ai Z (.whole 1 Z Z Z Z (by rw [bg,hpl];rfl) (.tmp Z .nil)) (ac 2 [] Z Z) ?_
 exact ⟨rfl,rfl⟩

instance:EqT Tryz.prog t_api_ID:=⟨by kernel_rfl⟩
instance:ArrI Tryz.prog t_api_ID 32 .u8:=by
 obtain ⟨j,hj,hs,_⟩:=TT.info (P:=Tryz.prog) pq _ Z
 exact ⟨⟨pq,j,by kernel_rfl,by kernel_rfl,hj,hs⟩⟩

def nx (xs:List Int):List Int:=idM (as0 (fm xs.length ld xs).1 (fm xs.length ld xs).2 xs.length)
theorem zf (xs:List Int):(nx xs).length=32:=by simp [nx,idM]
theorem as2 (k:Nat) (a l:List Int) (ha:a.length=8):(fm k a l).1.length=8∧(fm k a l).2.length≤l.length:=by
 induction k generalizing a l with
 | zero => exact ⟨ha, Nat.le_refl _⟩
 | succ k ih =>
  rw [fm]
  split
  ·have:=ih (qp a (l.take 64)) (l.drop 64) (aar _ _)
   refine ⟨this.1,Nat.le_trans this.2 (by simp)⟩
  ·exact ⟨ha,Nat.le_refl _⟩

theorem ig {l:List Int} (h:l.length=32):pn (u8s l) 0 32=some (u8s l):=fd (by simp [h])
theorem a49 {b:World} {F:List SP} {vb:Value} {xs:List Int} (hlen:xs.length≤1000000) (hb:∀ w,Sat b F w→VL (Value.int .u8) w vb xs) :
  SC Tryz.prog amc [vb] b F (fun v F'=>v=idV (nx xs)∧F'=F):=by
 have hsl:=zf xs
 have hd:nx xs=idM (as0 (fm xs.length ld xs).1 (fm xs.length ld xs).2 xs.length):=rfl
 have hal:=as2 xs.length ld xs Z
 refine bf Tryz.func22 Z Z Z <| bd4 <| ek Z Z Z Z Z fun gi=>a8r <| bq Z Z Z (bdh) ?_
 rintro _ _ ⟨g,rfl,rfl⟩
 refine af Z <| a8r <| bgi Z Z ?_
 refine bq Z Z Z (a2o (F:=pt gi t_api_ID (u8s (List.replicate 32 0))::F) (a:=ld) (rs:= []) (n:=0) (xs:=xs) Z (by omega) (by simp;omega) (up hb (ac 1 [] Z Z))) ?_
 rintro _ _ ⟨rfl,r',rfl⟩
 refine a8r <| af Z ?_
 have e0:([]:List Int).length+xs.length=xs.length:=by simp
 have e1:(0:Int)+xs.length=xs.length:=by simp
 simp only [e0,e1,List.nil_append] at *
 refine bq Z Z Z (a6t hal.1 (by omega)) ?_
 rintro _ _ ⟨rfl,rfl⟩
 rw [← hd]
 generalize nx xs=d at *
 refine bgj Z Z Z <| ek Z Z Z Z Z fun g4=> ?_
 skip
 refine im 0 Z Z Z Z Z Z Z (by rw [bg,hsl];rfl) (dt _) (by simp [hsl]) ?_
 refine af Z <| a8r <| dk 0 Z Z Z Z Z Z (ig hsl) Z ?_
 refine im 3 Z Z Z Z Z Z Z (by rw [bg,hsl];rfl) (dt _) (by simp [hsl]) ?_
 refine bd3 <| aj ?_
 refine ai Z (.whole 3 Z Z Z Z (by rw [bg,hsl];rfl) .nil) (ac 4 [] Z Z) ?_
 exact ⟨rfl,rfl⟩

def alv (l:List Int) (n:Nat):List Int:=l.take n++List.replicate (32 - n) 0
theorem aqn (l:List Int) (n:Nat) (h:l.length=32) (hn:n≤32):(alv l n).length=32:=by simp [alv,h];omega
def ot (l:List Int) (w:Int):List Int:=if w<1∨32<w then List.replicate 32 0 else alv l w.toNat
def ad0 (w:Int):Int:=if w<1∨32<w then 3 else 0
theorem uo (l:List Int) (w:Int) (h:l.length=32):(ot l w).length=32:=by
 unfold ot;split
 ·simp
 ·exact aqn l _ h (by omega)
theorem a5a {b:World} {F:List SP} {l:List Int} {w:Int} (hl:l.length=32) :
  SC Tryz.prog awg [idV l,.int .i64 w] b F (fun v F'=>v = .tuple ⟨[idV (ot l w),.int .i64 (ad0 w)]⟩∧F'=F):=by
 refine bf Tryz.func138 Z Z Z <| bd4 <| cq Z Z Z Z Z fun g2=>ek Z Z Z Z Z fun g4=>af Z <| bd3 <| ae <| bd4 <| bgj Z Z Z ?_
 refine f0 8 Z (fun h=> ?_) (fun h=> ?_)
 ·refine bgj Z Z Z <| bd3 <| aq Z <| bd4 <| af Z <| iv 0 Z Z Z Z <| af Z <| bd3 <| aj <| ag <| ai Z (.agg 0 Z Z Z Z Z (.tmp Z .nil)) (ac 2 [] Z Z) ?_
  exact ⟨by rw [ot,ad0,if_pos (.inl h),if_pos (.inl h)];rfl,rfl⟩
 refine bgj Z Z Z <| bd3 ?_
 refine di Z (fun h'=> ?_) (fun h'=> ?_)
 ·refine bd4 <| af Z <| iv 0 Z Z Z Z <| af Z <| bd3 <| aj <| ag <| ai Z (.agg 0 Z Z Z Z Z (.tmp Z .nil)) (ac 2 [] Z Z) ?_
  exact ⟨by rw [ot,ad0,if_pos (.inr h'),if_pos (.inr h')];rfl,rfl⟩
 refine ao <| aa <| bd4 <| af Z <| b5 Z (by omega) ?_
 have hw:(32 - w.toNat:Nat)≤32:=by omega
 have hcut:spl (u8s l) (if 32=w.toNat then 0 else 0+w.toNat*1) (List.replicate (((32:Nat):Int).toNat - w.toNat) (.int .u8 0))=u8s (alv l w.toNat):=by
  by_cases h32:32=w.toNat
  ·rw [if_pos h32,← h32];simp [spl,alv,u8s,hl];rw [List.take_of_length_le (by simp [hl])]
  ·rw [if_neg h32]
   have e1:0+w.toNat*1=w.toNat:=by omega
   have e2:((32:Nat):Int).toNat - w.toNat=32 - w.toNat:=by omega
   have e3:w.toNat+(32 - w.toNat)=32:=by omega
   rw [e1,e2]
   simp [spl,alv,u8s,e3,hl]
 refine ax7 1 Z Z Z Z Z Z Z Z (by simp [hl];split <;> omega) ?_
 rw [hcut]
 have hcl:=aqn l w.toNat hl (by omega)
 have hR:ot l w=alv l w.toNat:=by rw [ot,if_neg (by omega)]
 have hE:ad0 w=0:=by rw [ad0,if_neg (by omega)]
 rw [hR,hE]
 generalize alv l w.toNat=d at *
 refine a8r <| dk 1 Z Z Z Z Z Z (ig hcl) Z ?_
 refine im 0 Z Z Z Z Z Z Z (by rw [bg,hcl];rfl) (dt _) (by simp [hcl]) ?_
 refine af Z <| bd3 <| aj ?_
 refine ai Z (.whole 0 Z Z Z Z (by rw [bg,hcl];rfl) (.tmp Z .nil)) (ac 2 [] Z Z) ?_
 exact ⟨rfl,rfl⟩

theorem bf6 {b:World} {F:List SP} {vb:Value} {xs:List Int} {w:Int} (hlen:xs.length≤1000000) (hb:∀ w,Sat b F w→VL (Value.int .u8) w vb xs) :
  SC Tryz.prog ap7 [vb,.int .i64 w] b F (fun v F'=>v = .tuple ⟨[idV (ot (nx xs) w),.int .i64 (ad0 w)]⟩∧F'=F):=by
 have hcl:=uo (nx xs) w (zf xs)
 refine bf Tryz.func81 Z Z Z <| bd4 <| ek Z Z Z Z Z fun g4=>af Z <| a8r <| af Z <| bh Z Z Z (a49 hlen (up hb (ac 1 [] Z Z))) <| af Z <| bh Z Z Z (a5a (zf xs)) ?_
 generalize ot (nx xs) w=d at *
 refine bgi Z Z ?_
 refine im 0 Z Z Z Z Z Z Z (by rw [bg,hcl];rfl) (dt _) (by simp [hcl]) ?_
 refine af Z <| bd3 <| aj ?_
 refine ai Z (.whole 0 Z Z Z Z (by rw [bg,hcl];rfl) (.tmp Z .nil)) (ac 1 [] Z Z) ?_
 exact ⟨rfl,rfl⟩

def uq (l:List Int) (w:Int):Bool:=decide (ad0 w=0)&&decide (ot l w=l)
theorem a5b {b:World} {F:List SP} {l:List Int} {w:Int} (hl:l.length=32) :
  SC Tryz.prog awh [idV l,.int .i64 w] b F (fun v F'=>v = .bool (uq l w)∧F'=F):=by
 have hcl:=uo l w hl
 refine bf Tryz.func171 Z Z Z <| bd4 <| cq Z Z Z Z Z fun g2=>af Z <| a8r <| dk 0 Z Z Z Z Z Z (ig hl) Z <| af Z <| bh Z Z Z (a5a hl) ?_
 unfold uq
 generalize ot l w=d at *
 refine bgj Z Z Z <| ek Z Z Z Z Z fun g5=> ?_
 refine im 0 Z Z Z Z Z Z Z (by rw [bg,hcl];rfl) (dt _) (by simp [hcl]) ?_
 refine af Z <| a8r <| bgj Z Z Z ?_
 refine f0 15 Z (fun h=> ?_) (fun h=> ?_)
 ·skip
  refine dk 0 Z Z Z Z Z Z (ig hcl) Z <| dk 1 Z Z Z Z Z Z (ig hl) Z <| uc Z (yi (as00:=d) (bs:=l) Z Z hcl hl) Z <| bgi Z Z <| bd3 <| aj <| ai Z (.tmp Z .nil) (ac 2 [] Z Z) ?_
  exact ⟨by simp [h,agn],rfl⟩
 ·(iterate 5 refine af Z ?_)
  refine bd3 <| aj <| ai Z (.tmp Z .nil) (ac 2 [] Z Z) ?_
  exact ⟨by simp [h,agn],rfl⟩

def ii (l:List Int):Prop:=∀ c∈l,0≤c∧c<256

abbrev u8l (xs:List Int):List UInt8:=xs.map fun n=>UInt8.ofNat n.toNat
theorem as3 {b:World} {F:List SP} {va vb:Value} {xs ys:List Int} (ha:∀ w,Sat b F w→VL (Value.int .u8) w va xs) (hb:∀ w,Sat b F w→VL (Value.int .u8) w vb ys) :
  SC Tryz.prog aie [va,vb] b F (fun v F'=>v = .int .i64 (Lib.compareBytes (u8l xs) (u8l ys))∧F'=F):=by
 refine bf Tryz.func131 Z Z Z <| bd4 <| af Z <| a8r <| bgi Z Z ?_
 refine al4 Z Z Z (fun w H=>a12 Tryz.func173 (by kernel_rfl) (by kernel_rfl) (by kernel_rfl) (by kernel_rfl) (ha w H) (hb w H)) ?_
 refine af Z <| bd3 <| aj <| ai Z (.tmp Z .nil) (Ent.refl _) ?_
 exact ⟨rfl,rfl⟩

def dig (c:Int):Int:=if 48≤c∧c≤57 then c - 48 else if 97≤c∧c≤102 then c - 87 else -1
def bdi (s:List Int) (i:Nat):Int:=16*dig (s.getD (2*i) 0)+dig (s.getD (2*i+1) 0)
def okD (s:List Int) (i:Nat):Prop:=0≤dig (s.getD (2*i) 0)∧0≤dig (s.getD (2*i+1) 0)
instance (s:List Int) (i:Nat):Decidable (okD s i):=inferInstanceAs (Decidable (_∧_))
def okR (s:List Int):Prop:=s.length=64∧∀ i,i<32→okD s i
instance (s:List Int):Decidable (okR s):=inferInstanceAs (Decidable (_∧_))
def bdj (s:List Int):List Int:=if okR s then (List.range 32).map (bdi s) else List.replicate 32 0
def jd (x y:List Int):Int:=Lib.compareBytes (u8l x) (u8l y)
theorem zg {b:World} {F:List SP} {x y:List Int} (hx:x.length=32) (hy:y.length=32):SC Tryz.prog ad6 [idV x,idV y] b F (fun v F'=>v = .int .i64 (jd x y)∧F'=F):=by
 refine bf Tryz.func72 Z Z Z <| bd4 <| cq Z Z Z Z Z fun g2=>cq Z Z Z Z Z fun g3=>af Z <| bd3 <| ae <| b7 flo [] (by decide +kernel) (dw _) ?_
 (iterate 2 refine dj Z Z (by omega) ?_)
 refine b4 5 (.slice (some ⟨g2,0,none⟩) 32 32) Z Z <| b4 6 (.slice (some ⟨g3,0,none⟩) 32 32) Z Z <| cz Z Z Z Z (as3 (vl1 (l:=x) (k:=1) hx.symm (by decide) Z) (vl1 (l:=y) (k:=0) hy.symm (by decide) Z)) (dw _) <| ay Z Zl <| az <| aa <| aj <| ai Z (.tmp Z .nil) (ac 2 [] Z Z) ?_
 exact ⟨rfl,rfl⟩

def zP (l:List Int) (w i:Nat):List Int:=l.take w++List.replicate (i - w) 0++l.drop i
theorem a6u (l:List Int) (w i:Nat) (h:l.length=32) (hw:w≤i) (hi:i≤32):(zP l w i).length=32:=by simp [zP,h];omega
theorem a6v (l:List Int) (w i:Nat) (h:l.length=32) (hw:w≤i) (hi:i<32):(u8s (zP l w i)).set i (.int .u8 0)=u8s (zP l w (i+1)):=by
 have e:i+1 - w=(i - w)+1:=by omega
 simp only [u8s,← List.map_set,zP]
 rw [List.set_append_right _ _ (by simp [h];omega),e,List.replicate_succ',List.drop_eq_getElem_cons (by omega:i<l.length)]
 have e2:i - (l.take w++List.replicate (i - w) 0).length=0:=by simp [h];omega
 rw [e2]
 simp only [List.set_cons_zero,List.append_assoc,List.cons_append,List.nil_append]

theorem aqo {b:World} {F:List SP} {l:List Int} {w:Int} (hl:l.length=32) :
  SC Tryz.prog adu [idV l,.int .i64 w] b F (fun v F'=>v = .tuple ⟨[idV (ot l w),.int .i64 (ad0 w)]⟩∧F'=F):=by
 refine bf Tryz.func185 Z Z Z <| bd4 <| cq Z Z Z Z Z fun g2=>ek Z Z Z Z Z fun g4=>af Z <| bd3 <| ae <| bd4 <| bgj Z Z Z ?_
 refine f0 9 Z (fun h=> ?_) (fun h=> ?_)
 ·refine bgj Z Z Z <| bd3 <| aq Z <| bd4 <| af Z <| iv 0 Z Z Z Z <| af Z <| bd3 <| aj <| ag <| ai Z (.agg 0 Z Z Z Z Z (.tmp Z .nil)) (ac 2 [] Z Z) ?_
  exact ⟨by rw [ot,ad0,if_pos (.inl h),if_pos (.inl h)];rfl,rfl⟩
 refine bgj Z Z Z <| bd3 ?_
 refine di Z (fun h'=> ?_) (fun h'=> ?_)
 ·refine bd4 <| af Z <| iv 0 Z Z Z Z <| af Z <| bd3 <| aj <| ag <| ai Z (.agg 0 Z Z Z Z Z (.tmp Z .nil)) (ac 2 [] Z Z) ?_
  exact ⟨by rw [ot,ad0,if_pos (.inr h'),if_pos (.inr h')];rfl,rfl⟩
 obtain ⟨m,rfl⟩:∃ m:Nat,w=(m:Int):=⟨w.toNat,by omega⟩
 refine ao <| aa <| ae <| bd4 <| bgi Z Z <| bd3 <| ar ?_
 refine b6 (S:=Nat) (fun i=> [(2,.pointer (some ⟨g2,0,none⟩)),(4,.pointer (some ⟨g4,0,none⟩)),(6,.int .i64 (i:Int))]) (fun i=>pt g2 t_api_ID (u8s (zP l m i))::pt g4 t_api_ID (u8s (List.replicate 32 0))::F) (fun i=>m≤i∧i≤32) (fun i=>32 - i) m ⟨rfl,rfl,rfl,trivial⟩ ?_ ⟨Nat.le_refl _,by omega⟩ ?_
 ·have:zP l m m=l:=by simp [zP]
  rw [this];exact ac 2 [1,0] Z Z
 rintro i ⟨h1,h2⟩
 have hzl:=a6u l m i hl h1 h2
 refine ae <| bd4 <| bgi Z Z <| bd3 ?_
 refine di Z (fun h3=> ?_) (fun h3=> ?_)
 ·refine ao <| aa <| ae <| ar <| ab <| af Z <| b5 Z (by omega) ?_
  refine ae8 0 Z Z Z Z Z Z Z Z (aci (r:=u8s (zP l m (i+1))) (by rw [bi];simp [hzl];omega) (by rw [bi];simpa using a6v l m i hl h1 (by omega))) Z ?_
  refine ad <| ba <| aa <| ab <| af Z <| b5 Z (by (unfold I64;omega)) <| af Z <| ad ?_
  refine bj (i+1) ⟨rfl,rfl,rfl,trivial⟩ (Ent.refl _) ⟨by omega,by omega⟩ ?_
  show 32 - (i+1)<32 - i
  omega
 obtain rfl:i=32:=by omega
 have hR:zP l m 32=ot l m:=by rw [ot,if_neg (by omega),alv,zP,Int.toNat_natCast,List.drop_of_length_le (by omega),List.append_nil]
 have hE:ad0 m=0:=by rw [ad0,if_neg (by omega)]
 have hcl:=uo l m hl
 rw [hR] at *
 rw [hE]
 generalize ot l m=d at *
 refine bu <| av <| ax <| au <| aa <| bd4 <| dk 0 Z Z Z Z Z Z (ig hcl) Z ?_
 refine im 1 Z Z Z Z Z Z Z (by rw [bg,hcl];rfl) (dt _) (by simp [hcl]) ?_
 refine af Z <| bd3 <| aj ?_
 refine ai Z (.whole 1 Z Z Z Z (by rw [bg,hcl];rfl) (.tmp Z .nil)) (ac 2 [] Z Z) ?_
 exact ⟨rfl,rfl⟩

theorem aj5 {b:World} {F:List SP} {l:List Int} {w:Int} (hl:l.length=32) :
  SC Tryz.prog adr [idV l,.int .i64 w] b F (fun v F'=>v = .bool (uq l w)∧F'=F):=by
 have hcl:=uo l w hl
 refine bf Tryz.func151 Z Z Z <| bd4 <| cq Z Z Z Z Z fun g2=>af Z <| a8r <| dk 0 Z Z Z Z Z Z (ig hl) Z <| af Z <| bh Z Z Z (aqo hl) ?_
 unfold uq
 generalize ot l w=d at *
 refine bgj Z Z Z <| ek Z Z Z Z Z fun g5=> ?_
 refine im 0 Z Z Z Z Z Z Z (by rw [bg,hcl];rfl) (dt _) (by simp [hcl]) ?_
 refine af Z <| a8r <| bgj Z Z Z ?_
 refine f0 15 Z (fun h=> ?_) (fun h=> ?_)
 ·skip
  refine dk 0 Z Z Z Z Z Z (ig hcl) Z <| dk 1 Z Z Z Z Z Z (ig hl) Z <| uc Z (yi (as00:=d) (bs:=l) Z Z hcl hl) Z <| bgi Z Z <| bd3 <| aj <| ai Z (.tmp Z .nil) (ac 2 [] Z Z) ?_
  exact ⟨by simp [h,agn],rfl⟩
 ·(iterate 5 refine af Z ?_)
  refine bd3 <| aj <| ai Z (.tmp Z .nil) (ac 2 [] Z Z) ?_
  exact ⟨by simp [h,agn],rfl⟩

def zh:List Int→List Int→Int
 | [], [] => 0
 | [], _ :: _ => -1
 | _ :: _, [] => 1
 | a :: x, b :: y => if a < b then -1 else if b < a then 1 else zh x y
theorem bf7:∀ a b:Fin 256,(UInt8.ofNat a.val<UInt8.ofNat b.val)=(a.val<b.val):=by
 intro a b
 simp only [UInt8.lt_iff_toNat_lt,UInt8.toNat_ofNat']
 rw [Nat.mod_eq_of_lt (by omega),Nat.mod_eq_of_lt (by omega)]
theorem a5c {a b:Int} (ha:0≤a∧a<256) (hb:0≤b∧b<256):(UInt8.ofNat a.toNat<UInt8.ofNat b.toNat)=(a<b):=by
 have:=bf7 ⟨a.toNat,by omega⟩ ⟨b.toNat,by omega⟩
 dsimp only at this
 rw [this]
 exact propext (by omega)
theorem as4:∀ {x y:List Int},ii x→ii y→jd x y=zh x y
 | [], [], _, _ => rfl
 | [], _ :: _, _, _ => rfl
 | _ :: _, [], _, _ => rfl
 | a :: x, b :: y, hx, hy => by
  have ih:=as4 (x:=x) (y:=y) (fun c hc=>hx c (List.mem_cons_of_mem _ hc)) (fun c hc=>hy c (List.mem_cons_of_mem _ hc))
  have ha:=hx a List.mem_cons_self
  have hb:=hy b List.mem_cons_self
  unfold jd at ih
  simp only [jd,u8l,List.map_cons,Lib.compareBytes,zh,a5c ha hb,a5c hb ha] at ih ⊢
  split
  ·rfl
  ·split
   ·rfl
   ·exact ih
theorem auy:∀ {x y:List Int} (i:Nat) (h1:i<x.length) (h2:i<y.length),x.take i=y.take i→zh x y=if x[i]<y[i] then -1 else if y[i]<x[i] then 1 else zh (x.drop (i+1)) (y.drop (i+1))
 | [], _, _, h1, _, _ => absurd h1 (by simp)
 | _ :: _, [], _, _, h2, _ => absurd h2 (by simp)
 | a :: x, b :: y, 0, _, _, _ => by simp [zh]
 | a :: x, b :: y, i + 1, h1, h2, h => by
  simp only [List.take_succ_cons,List.cons.injEq] at h
  obtain ⟨rfl,h⟩:=h
  have:=auy i (by simpa using h1) (by simpa using h2) h
  simp only [zh,Int.lt_irrefl,if_false,List.getElem_cons_succ,List.drop_succ_cons]
  exact this
theorem ag3:∀ x:List Int,zh x x=0
 | [] => rfl
 | a :: x => by simp only [zh, Int.lt_irrefl, if_false]; exact ag3 x

theorem aas {b:World} {F:List SP} {x y:List Int} (hx:x.length=32) (hy:y.length=32):SC Tryz.prog y8 [idV x,idV y] b F (fun v F'=>v = .int .i64 (zh x y)∧F'=F):=by
 refine bf Tryz.func146 Z Z Z <| bd4 <| cq Z Z Z Z Z fun g2=>cq Z Z Z Z Z fun g3=>af Z <| bd3 <| ae <| bd4 <| af Z <| bd3 <| ar <| b6 (S:=Nat) (fun i=> [(2,.pointer (some ⟨g2,0,none⟩)),(3,.pointer (some ⟨g3,0,none⟩)),(5,.int .i64 (i:Int))]) (fun i=>pt g3 t_api_ID (u8s y)::pt g2 t_api_ID (u8s x)::F) (fun i=>i≤32∧x.take i=y.take i) (fun i=>32 - i) 0 ⟨rfl,rfl,rfl,trivial⟩ (Ent.refl _) ⟨Nat.zero_le _,rfl⟩ ?_
 rintro i ⟨hi,heq⟩
 refine ae <| bd4 <| bgi Z Z <| bd3 ?_
 refine di Z (fun h3=> ?_) (fun h3=> ?_)
 ·have h1:i<x.length:=by omega
  have h2:i<y.length:=by omega
  have hc:=auy i h1 h2 heq
  have cx:nth (u8s x) (0+yw (i:Int).toNat 1)=some (.int .u8 x[i]):=by rw [bi,iw];simp [h1]
  have cy:nth (u8s y) (0+yw (i:Int).toNat 1)=some (.int .u8 y[i]):=by rw [bi,iw];simp [h2]
  refine ao <| aa <| ae <| ar <| ae <| ae <| b7 flo (pt g3 t_api_ID (u8s y)::pt g2 t_api_ID (u8s x)::F) (by decide +kernel) (Ent.refl _) <| ay Z Zl <| dj Z Z (by omega) <| nl 1 Z Z Z Z Z Z cx Z Z <| ay Z Zl <| dj Z Z (by omega) <| nl 0 Z Z Z Z Z Z cy Z Z <| ay Z Zl <| az <| aa ?_
  refine di Z (fun h4=> ?_) (fun h4=> ?_)
  ·refine bd4 <| af Z <| bd3 <| aj <| ag <| ap <| ag <| da <| ap <| ag <| ai Z (.tmp Z .nil) (ac 2 [] Z Z) ?_
   exact ⟨by rw [hc,if_pos h4];rfl,rfl⟩
  refine ao <| aa <| ae <| b7 flo (pt g3 t_api_ID (u8s y)::pt g2 t_api_ID (u8s x)::F) (by decide +kernel) (Ent.refl _) <| ay Z Zl <| dj Z Z (by omega) <| nl 1 Z Z Z Z Z Z cx Z Z <| ay Z Zl <| dj Z Z (by omega) <| nl 0 Z Z Z Z Z Z cy Z Z <| ay Z Zl <| az <| aa ?_
  refine di Z (fun h5=> ?_) (fun h5=> ?_)
  ·refine bd4 <| af Z <| bd3 <| aj <| ap <| ag <| da <| ap <| ag <| ai Z (.tmp Z .nil) (ac 2 [] Z Z) ?_
   exact ⟨by rw [hc,if_neg h4,if_pos h5];rfl,rfl⟩
  refine ao <| ba <| aa <| ab <| af Z <| b5 Z (by (unfold I64;omega)) <| af Z <| ad ?_
  refine bj (i+1) ⟨rfl,rfl,rfl,trivial⟩ (Ent.refl _) ⟨by omega,?_⟩ ?_
  ·rw [List.take_add_one,List.take_add_one,heq,List.getElem?_eq_getElem h1,List.getElem?_eq_getElem h2,show x[i]=y[i] from by omega]
  ·show 32 - (i+1)<32 - i
   omega
 obtain rfl:i=32:=by omega
 refine bu <| av <| ax <| au <| aa <| bd4 <| af Z <| bd3 <| aj <| ai Z (.tmp Z .nil) (ac 2 [] Z Z) ?_
 have:x=y:=by rwa [List.take_of_length_le (by omega),List.take_of_length_le (by omega)] at heq
 exact ⟨by rw [this,ag3];rfl,rfl⟩


theorem as5 (a b:Int):my a b=my b a:=by rw [my,my,Int.add_comm]
theorem auz {l:List Int} {i k:Nat} {z:Int} (hz:z.toNat=k) (h:k<i):nth (ll l i) (0+yw z.toNat 1)=some (.int .u32 ((fc l i).getD k 0)):=by
 rw [bi,hz,iw];simpa using aj3 l i k h
theorem a5d {l:List Int} {i:Nat} (h:i<64):stO (ll l i) (0+yw (i:Int).toNat 1) (.int .u32 (afp l (fc l i) i))=some (ll l (i+1)) :=
 aci (by rw [bi,aew l i (by omega)];simp;omega) (by rw [bi];simpa using aex l i h)
theorem au0 {a:List Int} {k:Nat} {z:Int} (hz:z.toNat=k) (h:k<a.length):nth (ee a) (0+yw z.toNat 1)=some (.int .u32 (a.getD k 0)):=by
 rw [bi,hz];simpa using as1 h
theorem aza {a:List Int} {n:Nat} (h:n=a.length):pn (ee a) 0 n=some (ee a):=fd (by rw [j6];exact h)

theorem au1 {b:World} {F:List SP} {bk off n c:Nat} {l:List Int} (hb:∀ w,Sat b F w→VL (Value.int .u8) w (.slice (some ⟨bk,off,none⟩) n c) l) {k:Nat} {z:Int} (hz:z.toNat=k) (hk:k<l.length) :
  ∀ w,Sat b F w→w.cell? ⟨bk,off+yw z.toNat 1,none⟩=some (.int .u8 (afo l k)):=fun w H=>by
 rw [bi,hz,Nat.mul_one,(hb w H).at k hk,afo,List.getD_eq_getElem?_getD,List.getElem?_eq_getElem hk];rfl

set_option maxHeartbeats 1000000 in
theorem as6 {b:World} {F:List SP} {vb:Value} {A l:List Int} (hb:∀ w,Sat b F w→VL (Value.int .u8) w vb l) (hl:64≤l.length) (hA:A.length=8) :
  SC Tryz.prog aba [.agg ⟨ee A⟩,vb] b F (fun v F'=>v = .agg ⟨ee (qp A l)⟩∧F'=F):=by
 have hM:qp A l=upd A (acg (toW A) zd (fc l 64) 64).l 8:=rfl
 have hA8:(ee A).length=8:=by rw [j6,hA]
 refine bf Tryz.func198 Z Z Z <| bt (fun w H=>(hb w H).form) ?_
 rintro ⟨bA,c,rfl,hnc,hcm,hz,hcell⟩
 obtain ⟨bk,off,rfl⟩:=hcell (by omega)
 refine bd4 <| cq Z Z Z Z Z fun g2=>ek Z Z Z Z Z fun g4=>a8r <| ek Z Z Z Z Z fun g5=>bd3 <| ae <| bd4 <| af Z <| bd3 <| ar ?_
 refine b6 (S:=Nat) (fun i=> [(1,.slice (some ⟨bk,off,none⟩) l.length c),(2,.pointer (some ⟨g2,0,none⟩)),(4,.pointer (some ⟨g4,0,none⟩)),(5,.pointer (some ⟨g5,0,none⟩)),(6,.int .i64 (i:Int))])
  (fun i=>pt g5 en (ll l i)::pt g4 ip (ee (List.replicate 8 0))::pt g2 ip (ee A)::F) (fun i=>i≤16) (fun i=>16 - i) 0 ⟨rfl,rfl,rfl,rfl,rfl,trivial⟩ (Ent.refl _) (Nat.zero_le _) ?_
 intro i hi
 refine ae <| bd4 <| bgi Z Z <| bd3 ?_
 refine di Z (fun h=> ?_) (fun h=> ?_)
 ·refine ao <| aa <| ae <| ar <| kt flo 35 F [] Z (by decide +kernel) (ac 3 [] Z Z) <| ay Z Zl <| ay Z Zl <| ay Z Zl <| dj Z Z (by (unfold I64;omega)) <| dj Z Z (by omega) <| fu Z (fun w H=>bm Z Z Z (au1 hb (k:=4*i) (by omega) (by omega) w H)) Z Z <| ay Z Zl <| dj Z Z (by omega) <| ay Z Zl <| ay Z Zl ?_
  (iterate 2 refine dj Z Z (by (unfold I64;omega)) ?_)
  refine dj Z Z (by omega) <| fu Z (fun w H=>bm Z Z Z (au1 hb (k:=4*i+1) (by omega) (by omega) w H)) Z Z <| ay Z Zl <| dj Z Z (by omega) <| ay Z Zl <| ay Z Zl <| ay Z Zl ?_
  (iterate 2 refine dj Z Z (by (unfold I64;omega)) ?_)
  refine dj Z Z (by omega) <| fu Z (fun w H=>bm Z Z Z (au1 hb (k:=4*i+2) (by omega) (by omega) w H)) Z Z <| ay Z Zl <| dj Z Z (by omega) <| ay Z Zl <| ay Z Zl <| ay Z Zl ?_
  (iterate 2 refine dj Z Z (by (unfold I64;omega)) ?_)
  refine dj Z Z (by omega) <| fu Z (fun w H=>bm Z Z Z (au1 hb (k:=4*i+3) (by omega) (by omega) w H)) Z Z <| ay Z Zl <| ay Z Zl <| dj Z Z (by omega) <| az <| ku Z (dw _) ?_
  have hn:afp l (fc l i) i=ay7 l i:=if_pos (by omega)
  have hst:=a5d (l:=l) (i:=i) (by omega)
  rw [hn] at hst
  refine ug 0 Z Z Z Z Z Z Z Z Z hst Z (dw _) <| az <| ba <| aa <| ab <| af Z <| b5 Z (by (unfold I64;omega)) <| af Z <| ad ?_
  refine bj (i+1) ⟨rfl,rfl,rfl,rfl,rfl,trivial⟩ (Ent.refl _) ?_ ?_
  ·show i+1≤16
   omega
  ·show 16 - (i+1)<16 - i
   omega
 obtain rfl:i=16:=by omega
 refine bu <| av <| ax <| au <| aa <| ae <| bd4 <| af Z <| bd3 <| ar ?_
 refine b6 (S:=Nat) (fun i=> [(2,.pointer (some ⟨g2,0,none⟩)),(4,.pointer (some ⟨g4,0,none⟩)),(5,.pointer (some ⟨g5,0,none⟩)),(7,.int .i64 (i:Int))])
  (fun i=>pt g5 en (ll l i)::pt g4 ip (ee (List.replicate 8 0))::pt g2 ip (ee A)::F) (fun i=>16≤i∧i≤64) (fun i=>64 - i) 16 ⟨rfl,rfl,rfl,rfl,trivial⟩ (Ent.refl _) ⟨Nat.le_refl _,by omega⟩ ?_
 rintro i ⟨h16,hi⟩
 refine ae <| bd4 <| bgi Z Z <| bd3 ?_
 refine di Z (fun h=> ?_) (fun h=> ?_)
 ·have w15:=auz (l:=l) (i:=i) (k:=i - 15) (z:=(i:Int) - 15) (by omega) (by omega)
  have w2:=auz (l:=l) (i:=i) (k:=i - 2) (z:=(i:Int) - 2) (by omega) (by omega)
  have w16:=auz (l:=l) (i:=i) (k:=i - 16) (z:=(i:Int) - 16) (by omega) (by omega)
  have w7:=auz (l:=l) (i:=i) (k:=i - 7) (z:=(i:Int) - 7) (by omega) (by omega)
  have hst:=a5d (l:=l) (i:=i) (by omega)
  have hn:afp l (fc l i) i=my (my (my ((fc l i).getD (i - 16) 0) (a6n ((fc l i).getD (i - 15) 0))) ((fc l i).getD (i - 7) 0)) (a6o ((fc l i).getD (i - 2) 0)):=if_neg (by omega)
  rw [hn] at hst
  generalize (fc l i).getD (i - 16) 0=v16 at *
  generalize (fc l i).getD (i - 15) 0=v15 at *
  generalize (fc l i).getD (i - 7) 0=v7 at *
  generalize (fc l i).getD (i - 2) 0=v2 at *
  refine ao <| aa <| ae <| ar <| ae <| b7 flo (pt g5 en (ll l i)::F) (by decide +kernel) (ac 3 [0] Z Z) <| ay Z Zl <| dj Z Z (by (unfold I64;omega)) <| dj Z Z (by omega) <| nl 0 Z Z Z Z Z Z w15 Z Z <| cz Z Z Z Z (SC.ofExt fun w H=>n6 _ 7 (by decide) (by decide) w) (ac 3 [0] Z Z) <| ay Z Zl <| dj Z Z (by (unfold I64;omega)) <| dj Z Z (by omega) <| nl 0 Z Z Z Z Z Z w15 Z Z <| cz Z Z Z Z (SC.ofExt fun w H=>n6 _ 18 (by decide) (by decide) w) (ac 3 [0] Z Z) <| ay Z Zl <| ay Z Zl <| dj Z Z (by (unfold I64;omega)) <| dj Z Z (by omega) <| nl 0 Z Z Z Z Z Z w15 Z Z <| dj Z Z (by omega) <| ay Z Zl <| ay Z Zl <| az <| aa <| ae <| b7 flo (pt g5 en (ll l i)::F) (by decide +kernel) (ac 3 [0] Z Z) <| ay Z Zl <| dj Z Z (by (unfold I64;omega)) <| dj Z Z (by omega) <| nl 0 Z Z Z Z Z Z w2 Z Z <| cz Z Z Z Z (SC.ofExt fun w H=>n6 _ 17 (by decide) (by decide) w) (ac 3 [0] Z Z) <| ay Z Zl <| dj Z Z (by (unfold I64;omega)) <| dj Z Z (by omega) <| nl 0 Z Z Z Z Z Z w2 Z Z <| cz Z Z Z Z (SC.ofExt fun w H=>n6 _ 19 (by decide) (by decide) w) (ac 3 [0] Z Z) <| ay Z Zl <| ay Z Zl <| dj Z Z (by (unfold I64;omega)) <| dj Z Z (by omega) <| nl 0 Z Z Z Z Z Z w2 Z Z <| dj Z Z (by omega) <| ay Z Zl <| ay Z Zl <| az <| aa <| kt flo 15 (pt g5 en (ll l i)::F) [] Z (by decide +kernel) (ac 3 [0] Z Z) <| ay Z Zl <| ay Z Zl <| dj Z Z (by (unfold I64;omega)) <| dj Z Z (by omega) <| nl 0 Z Z Z Z Z Z w16 Z Z <| ay Z Zl <| ay Z Zl <| ay Z Zl <| dj Z Z (by (unfold I64;omega)) <| dj Z Z (by omega) <| nl 0 Z Z Z Z Z Z w7 Z Z ?_
  refine ay Z Zl <| ay Z Zl <| ay Z Zl <| dj Z Z (by omega) <| az <| ku Z (dw _) <| ug 0 Z Z Z Z Z Z Z Z Z hst Z (dw _) <| az <| ba <| aa <| ab <| af Z <| b5 Z (by (unfold I64;omega)) <| af Z <| ad ?_
  refine bj (i+1) ⟨rfl,rfl,rfl,rfl,trivial⟩ (Ent.refl _) ⟨by omega,by omega⟩ ?_
  show 64 - (i+1)<64 - i
  omega
 obtain rfl:i=64:=by omega
 have hW:ll l 64=ee (fc l 64):=by simp [ll]
 have hX:(fc l 64).length=64:=wh l 64
 have hK:zd.length=64:=rfl
 rw [hW,hM]
 generalize fc l 64=X at *
 refine bu <| av <| ax <| au <| aa <| bd4 <| dk 2 Z Z Z Z Z Z (aza (a:=A) hA.symm) Z <| ek Z Z Z Z Z fun g10=> ?_
 refine im 0 Z Z Z Z Z Z Z (by rw [hA8];rfl) (nv _) (by rw [hA8];rfl) ?_
 refine a8r <| bh Z Z Z (SC.ofExt fun w H=>aof w) ?_
 generalize zd=K at *
 refine ek Z Z Z Z Z fun g11=> ?_
 refine im 0 Z Z Z Z Z Z Z (by rw [j6,hK];rfl) (nv _) (by rw [j6,hK];rfl) ?_
 refine bd3 <| ae <| bd4 <| af Z <| bd3 <| ar ?_
 refine b6 (S:=Nat) (fun i=> [(2,.pointer (some ⟨g2,0,none⟩)),(4,.pointer (some ⟨g4,0,none⟩)),(5,.pointer (some ⟨g5,0,none⟩)),(10,.pointer (some ⟨g10,0,none⟩)),(11,.pointer (some ⟨g11,0,none⟩)),(12,.int .i64 (i:Int))])
  (fun i=>pt g10 ip (ee (acg (toW A) K X i).l)::pt g11 en (ee K)::pt g5 en (ee X)::pt g4 ip (ee (List.replicate 8 0))::pt g2 ip (ee A)::F) (fun i=>i≤64) (fun i=>64 - i) 0 ⟨rfl,rfl,rfl,rfl,rfl,rfl,trivial⟩ ?_ (Nat.zero_le _) ?_
 ·rw [show (acg (toW A) K X 0).l=A from a48 A hA]
  exact ac 5 [1,0,2,3,4] Z Z
 intro i hi
 refine ae <| bd4 <| bgi Z Z <| bd3 ?_
 refine di Z (fun h=> ?_) (fun h=> ?_)
 ·have hnx:acg (toW A) K X (i+1)=rnd (acg (toW A) K X i) (K.getD i 0) (X.getD i 0):=rfl
  have ck:=au0 (a:=K) (k:=i) (z:=(i:Int)) (by omega) (by omega)
  have cx:=au0 (a:=X) (k:=i) (z:=(i:Int)) (by omega) (by omega)
  generalize hs:acg (toW A) K X i=s at *
  generalize hki:K.getD i 0=ki at *
  generalize hxi:X.getD i 0=xi at *
  obtain ⟨sa,sb,sc,sd,se,sf,sg,sh⟩:=s
  refine ao <| aa <| ae <| ar <| ae <| b7 flo (pt g10 ip [.int .u32 sa,.int .u32 sb,.int .u32 sc,.int .u32 sd,.int .u32 se,.int .u32 sf,.int .u32 sg,.int .u32 sh]::pt g11 en (ee K)::pt g5 en (ee X)::F) (by decide +kernel) (ac 5 [0,1,2] Z Z) <| dj Z Z (by omega) <| de 0 Z Z Z Z <| dj Z Z (by omega) <| de 0 Z Z Z Z <| cz Z Z Z Z (SC.ofExt fun w H=>n6 _ 6 (by decide) (by decide) w) (ac 5 [0,1,2] Z Z) <| dj Z Z (by omega) <| de 0 Z Z Z Z <| cz Z Z Z Z (SC.ofExt fun w H=>n6 _ 11 (by decide) (by decide) w) (ac 5 [0,1,2] Z Z) <| ay Z Zl <| dj Z Z (by omega) <| de 0 Z Z Z Z <| cz Z Z Z Z (SC.ofExt fun w H=>n6 _ 25 (by decide) (by decide) w) (ac 5 [0,1,2] Z Z) <| ay Z Zl <| ay Z Zl <| dj Z Z (by omega) <| de 0 Z Z Z Z <| dj Z Z (by omega) <| de 0 Z Z Z Z <| ay Z Zl <| dj Z Z (by omega) <| de 0 Z Z Z Z <| ay Z Zl <| dj Z Z (by omega) <| de 0 Z Z Z Z <| ay Z Zl <| ay Z Zl <| ay Z Zl <| ay Z Zl <| dj Z Z (by omega) <| nl 1 Z Z Z Z Z Z ck Z Z <| ay Z Zl <| ay Z Zl <| dj Z Z (by omega) <| nl 2 Z Z Z Z Z Z cx Z Z <| ay Z Zl <| ay Z Zl <| az <| aa <| ae <| b7 flo (pt g10 ip [.int .u32 sa,.int .u32 sb,.int .u32 sc,.int .u32 sd,.int .u32 se,.int .u32 sf,.int .u32 sg,.int .u32 sh]::F) (by decide +kernel) (ac 5 [0] Z Z) <| dj Z Z (by omega) <| de 0 Z Z Z Z <| cz Z Z Z Z (SC.ofExt fun w H=>n6 _ 2 (by decide) (by decide) w) (ac 5 [0] Z Z) <| dj Z Z (by omega) <| de 0 Z Z Z Z <| cz Z Z Z Z (SC.ofExt fun w H=>n6 _ 13 (by decide) (by decide) w) (ac 5 [0] Z Z) <| ay Z Zl <| dj Z Z (by omega) <| de 0 Z Z Z Z <| cz Z Z Z Z (SC.ofExt fun w H=>n6 _ 22 (by decide) (by decide) w) (ac 5 [0] Z Z) <| ay Z Zl <| dj Z Z (by omega) <| de 0 Z Z Z Z <| dj Z Z (by omega) ?_
  refine de 0 Z Z Z Z <| ay Z Zl <| dj Z Z (by omega) <| de 0 Z Z Z Z <| dj Z Z (by omega) <| de 0 Z Z Z Z <| ay Z Zl <| ay Z Zl <| dj Z Z (by omega) <| de 0 Z Z Z Z <| dj Z Z (by omega) <| de 0 Z Z Z Z <| ay Z Zl <| ay Z Zl <| ay Z Zl <| ay Z Zl <| az <| aa <| ab <| bgj Z Z Z <| b5 Z (by omega) <| df 0 Z Z Z <| b5 Z (by omega) <| df 0 Z Z Z <| b5 Z (by omega) <| df 0 Z Z Z <| b5 Z (by omega) <| df 0 Z Z Z <| bgi Z Z <| b5 Z (by omega) <| df 0 Z Z Z <| b5 Z (by omega) <| df 0 Z Z Z <| b5 Z (by omega) <| df 0 Z Z Z <| af Z <| iv 0 Z Z Z Z <| ad <| ba <| aa <| ab <| af Z <| b5 Z (by (unfold I64;omega)) <| af Z <| ad ?_
  refine bj (i+1) ⟨rfl,rfl,rfl,rfl,rfl,rfl,trivial⟩ (by rw [hnx];exact Ent.refl _) ?_ ?_
  ·show i+1≤64
   omega
  ·show 64 - (i+1)<64 - i
   omega
 obtain rfl:i=64:=by omega
 generalize hC:(acg (toW A) K X 64).l=C at *
 have hC8:C.length=8:=by rw [← hC];rfl
 refine bu <| av <| ax <| au <| aa <| ae <| bd4 <| af Z <| bd3 <| ar ?_
 refine b6 (S:=Nat) (fun i=> [(2,.pointer (some ⟨g2,0,none⟩)),(4,.pointer (some ⟨g4,0,none⟩)),(10,.pointer (some ⟨g10,0,none⟩)),(15,.int .i64 (i:Int))])
  (fun i=>pt g10 ip (ee (upd C A i))::pt g4 ip (ee (List.replicate 8 0))::pt g2 ip (ee A)::F) (fun i=>i≤8) (fun i=>8 - i) 0 ⟨rfl,rfl,rfl,rfl,trivial⟩ ?_ (Nat.zero_le _) ?_
 ·rw [aql C A hC8]
  exact ac 5 [0,3,4] Z Z
 intro i hi
 have hul:=rx C A i
 refine ae <| bd4 <| bgi Z Z <| bd3 ?_
 refine di Z (fun h=> ?_) (fun h=> ?_)
 ·have ca:=au0 (a:=A) (k:=i) (z:=(i:Int)) (by omega) (by omega)
  have cc:=au0 (a:=upd C A i) (k:=i) (z:=(i:Int)) (by omega) (by omega)
  rw [ais _ _ _ _ (by omega),if_neg (by omega)] at cc
  have hst:stO (ee (upd C A i)) (0+yw (i:Int).toNat 1) (.int .u32 (my (C.getD i 0) (A.getD i 0)))=some (ee (upd C A (i+1))) :=
   aci (by rw [bi,j6,hul];simp;omega) (by rw [bi,← aut C A i (by omega)];simp [ee])
  generalize upd C A i=U at *
  refine ao <| aa <| ae <| ar <| kt flo 9 (pt g10 ip (ee U)::pt g4 ip (ee (List.replicate 8 0))::pt g2 ip (ee A)::F) [] Z (by decide +kernel) (Ent.refl _) <| ay Z Zl <| ay Z Zl <| dj Z Z (by omega) <| nl 0 Z Z Z Z Z Z cc Z Z <| ay Z Zl <| dj Z Z (by omega) <| nl 2 Z Z Z Z Z Z ca Z Z <| ay Z Zl <| dj Z Z (by omega) <| az <| ku Z (dw _) <| ug 0 Z Z Z Z Z Z Z Z Z hst Z (dw _) <| az <| ba <| aa <| ab <| af Z <| b5 Z (by (unfold I64;omega)) <| af Z <| ad ?_
  refine bj (i+1) ⟨rfl,rfl,rfl,rfl,trivial⟩ (Ent.refl _) ?_ ?_
  ·show i+1≤8
   omega
  ·show 8 - (i+1)<8 - i
   omega
 obtain rfl:i=8:=by omega
 have hUU:upd A C 8=upd C A 8:=by
  apply List.ext_getElem
  ·rw [rx,rx]
  ·intro j h1 h2
   rw [rx] at h1
   have e1:=ais A C 8 j h1
   have e2:=ais C A 8 j h1
   rw [if_pos h1] at e1 e2
   rw [List.getD_eq_getElem?_getD,List.getElem?_eq_getElem (by rw [rx];exact h1)] at e1 e2
   simp only [Option.getD_some] at e1 e2
   rw [e1,e2,as5]
 rw [hUU]
 generalize upd C A 8=U at *
 refine bu <| av <| ax <| au <| aa <| bd4 <| dk 0 Z Z Z Z Z Z (aza (a:=U) hul.symm) Z ?_
 refine im 1 Z Z Z Z Z Z Z (by rw [j6,hul];rfl) (nv _) (by rw [j6,hul];rfl) ?_
 refine bd3 <| aj ?_
 refine ai Z (.whole 1 Z Z Z Z (by rw [j6,hul];rfl) .nil) (ac 3 [] Z Z) ?_
 exact ⟨rfl,rfl⟩

def alw (xs:List Int):List Int:=idM (fm (ach xs xs.length).length ld (ach xs xs.length)).1
theorem aqp (xs:List Int):(alw xs).length=32:=by simp [alw,idM]

theorem qr {P:Program} {tt:Nat→Option TI} [TT P tt] {ro:Option Nat} {N:Nat} {fl:Oper→Bool} {l rest:List Oper} {kk:Nat} {Q:Exit→Act→World→Prop} {E:List (Nat × Value)} {ds:List Deferred} {b:World} {F0 F G:List SP}
  {op:Op} {ty:TypeId} {pos:String} {aft:Array Edge} {g:Option (Nat × Bool)} {t g' t0:Nat} {x y:Operand} {i:TI} {cs vs:List Value} (k:Nat) (hg:cp l E g=some true) (hf:fl ⟨none,op,ty,pos,aft,g⟩=false) (hop:op = .store t x y) (ht:tt t=some i) (hx:ev E x=some (.pointer (some ⟨g',0,none⟩))) (hy:ev E y=some (.agg ⟨vs⟩)) (hF:nth F k=some (pt g' t0 cs)) (hG:jv F k (pt g' t0 vs)=some G)
  (hs:vs.length=i.size) (hv:∀ u∈vs,u.oneCell'=true) (hc:vs.length=cs.length) (he:Ent G F0) (h:SD P fl ro N F0 l (kk+1) rest Q E ds b G):SD P fl ro N F0 l kk (⟨none,op,ty,pos,aft,g⟩::rest) Q E ds b F:=by
 subst hop
 refine apm hg hf (fun w H=> ?_) he h
 have B:=H.blk hF
 exact ⟨_,td (vs:=vs) ht hx hy Z (by rw [hs];exact Nat.beq_refl _) hv B hc,H.write hF (Fr.setRow _ _ _) B.setRow hG⟩
theorem a5e {g o m c n' c':Nat} (h:c≠m):Value.slice (if c=m then some ⟨g,o,none⟩ else (some ⟨g,o,none⟩:Option Addr).map fun x=>x.add (m*1)) n' c' = .slice (some ⟨g,o+m,none⟩) n' c':=by
 rw [if_neg h]
 simp only [Option.map_some,Addr.add,Nat.mul_one]
 split
 ·rename_i h0;simp [h0]
 ·rfl

set_option maxHeartbeats 1000000 in
theorem azb {b:World} {F:List SP} {vb:Value} {xs:List Int} (hlen:xs.length≤1000000) (hb:∀ w,Sat b F w→VL (Value.int .u8) w vb xs) :
  SC Tryz.prog adx [vb] b F (fun v F'=>v=idV (alw xs)∧F'=F):=by
 have hEL:=aqm xs xs.length
 refine bf Tryz.func190 Z Z Z <| bt (fun w H=>(hb w H).form) ?_
 rintro ⟨bA,cb,rfl,hnc,hcm,hzn,hcell⟩
 clear hcell hzn hnc hcm
 refine bd4 <| ek Z Z Z Z Z fun g2=>a8r <| p5 [] Z Z Z Z Z Z Z Z Z fun gl=>fq (iz (n:=0) (sz:=1) Z Z (by decide) 0 Z Z) <| af Z <| dx 0 Z Z Z Z Z Z Z Z Z (up hb (ac 2 [] Z Z)) (dt _) (by omega) (fun _=>rfl) fun v4=> ?_
 refine fq (qq (l:=xs) 0 Z (by simp) (by simp) Z) ?_
 refine p5 [.int .u8 128] Z Z Z Z Z Z Z Z Z fun gl=> ?_
 refine dx 1 Z Z Z Z Z Z Z Z Z (vl1 (l:= [128]) (k:=0) Z (by decide) Z) (dt [128]) (by simp;omega) (fun _=>rfl) fun v5=> ?_
 refine fq ((qq (l:=xs ++ [128]) 1 Z (by simp) (by simp) Z).trans (ac 3 [1,2] Z Z)) ?_
 refine af Z <| bd3 <| ae <| ar ?_
 refine b6 (S:=Nat × Value) (fun s=> [(0,.slice bA xs.length cb),(2,.pointer (some ⟨g2,0,none⟩)),(3,s.2)])
  (fun s=>rB s.2 (xs ++ [128]++List.replicate s.1 0)::pt g2 t_api_ID (u8s (List.replicate 32 0))::F)
  (fun s=>s.1≤mt xs) (fun s=>mt xs - s.1) (0,v5) ⟨rfl,rfl,rfl,trivial⟩ (qq 0 Z (by simp) (by simp) Z) (Nat.zero_le _) ?_
 rintro ⟨k,v⟩ hk
 dsimp only at hk ⊢
 have hL:(xs ++ [128]++List.replicate k 0).length=xs.length+1+k:=by simp;omega
 have hz:mt xs=(120 - (xs.length+1) % 64) % 64:=rfl
 refine bt (fun w H=>(H.oat (k:=0) Z).form) ?_
 rintro ⟨A7,c7,rfl,_,_,_⟩
 refine ae <| bd4 <| bgi Z Z <| b5 Z (by (unfold I64;omega)) <| b5 Z (by omega) <| af Z <| bd3 ?_
 have htm:(((xs ++ [128]++List.replicate k 0).length:Int)+8).tmod 64=(((xs.length+1+k+8) % 64:Nat):Int):=by
  rw [hL,Int.tmod_eq_emod_of_nonneg (by omega)];omega
 refine abg Z (fun h=> ?_) (fun h=> ?_) <;> rw [htm] at h
 ·refine ao <| aa <| ar <| ab <| af Z <| p5 [.int .u8 0] Z Z Z Z Z Z Z Z Z fun gl=> ?_
  refine dx 1 Z Z Z Z Z Z Z Z Z (vl1 (l:= [0]) (k:=0) Z (by decide) Z) (dt [0]) (by simp;omega) (fun _=>rfl) fun v8=> ?_
  refine fq ((qq (l:=xs ++ [128]++List.replicate (k+1) 0) 1 Z (by simp;omega) (by rw [List.replicate_succ'];simp) Z).trans (ac 3 [1,2] Z Z)) ?_
  refine af Z <| ad <| ba ?_
  refine bj (k+1,v8) ⟨rfl,rfl,rfl,trivial⟩ (Ent.refl _) ?_ ?_
  ·show k+1≤mt xs
   omega
  ·show mt xs - (k+1)<mt xs - k
   omega
 obtain rfl:k=mt xs:=by omega
 refine bu <| av <| ax <| au <| aa <| bd4 ?_
 (iterate 5 refine af Z ?_)
 refine bd3 <| ae <| bd4 <| af Z <| bd3 <| ar ?_
 generalize hP:xs ++ [128]++List.replicate (mt xs) 0=p at *
 have hend:ach xs xs.length=p++ze xs.length 8:=by rw [ach,hP]
 have hpl:p.length≤1000100:=by omega
 have hLL:∀ j,(ze xs.length j).length=j:=fun j=>by simp [ze]
 refine b6 (S:=Nat × Value) (fun s=> [(2,.pointer (some ⟨g2,0,none⟩)),(3,s.2),(4,.int .u64 (IntKind.u64.wrap (IntKind.u64.wrap xs.length*8))),(5,.int .i64 (7 - (s.1:Int)))])
  (fun s=>rB s.2 (p++ze xs.length s.1)::pt g2 t_api_ID (u8s (List.replicate 32 0))::F)
  (fun s=>s.1≤8) (fun s=>8 - s.1) (0,.slice A7 p.length c7) ⟨rfl,rfl,rfl,rfl,trivial⟩ (qq 0 Z (by simp [ze]) (by simp [ze]) Z) (Nat.zero_le _) ?_
 rintro ⟨k,v⟩ hk
 dsimp only at hk ⊢
 refine ae <| bd4 <| bgi Z Z <| bd3 ?_
 refine di Z (fun h=> ?_) (fun h=> ?_)
 ·refine ao <| aa <| ae <| ar <| ab <| bgj Z Z Z <| b5 Z (by (unfold I64;omega)) <| b5 Z (by omega) <| af Z ?_
  have e:min (8*(7 - (k:Int))).toNat IntKind.u64.bits=56 - 8*k:=by
   show min _ 64=_
   omega
  refine a9 36 (.int .u8 (aj4 xs.length k)) Z (by rw [aj4,e]) ?_
  refine p5 [.int .u8 (aj4 xs.length k)] Z Z Z Z Z Z Z Z Z fun gl=> ?_
  refine dx 1 Z Z Z Z Z Z Z Z Z (vl1 (l:= [aj4 xs.length k]) (k:=0) Z (by decide) Z) (dt [aj4 xs.length k]) (by simp [hLL];omega) (fun _=>rfl) fun v8=> ?_
  refine fq ((qq (l:=p++ze xs.length (k+1)) 1 Z (by simp [hLL];omega) (by simp [ze,List.range_succ]) Z).trans (ac 3 [1,2] Z Z)) ?_
  refine af Z <| ad <| ba <| aa <| ab <| af Z <| b5 Z (by (unfold I64;omega)) <| af Z <| ad ?_
  have e7:(7 - (k:Int)) - 1=7 - ((k+1:Nat):Int):=by omega
  refine bj (k+1,v8) ⟨rfl,rfl,rfl,by rw [← e7];rfl,trivial⟩ (Ent.refl _) ?_ ?_
  ·show k+1≤8
   omega
  ·show 8 - (k+1)<8 - k
   omega
 obtain rfl:k=8:=by omega
 rw [← hend]
 generalize hE:ach xs xs.length=l0 at *
 refine bt (fun w H=>(H.oat (k:=0) Z).form) ?_
 rintro ⟨A9,c9,rfl,h91,h92,h93⟩
 refine bu <| av <| ax <| au <| aa <| bd4 <| af Z <| ek Z Z Z Z Z fun g6=>iv 0 Z Z Z Z <| bd3 <| ae <| bd4 <| af Z <| bd3 <| ar ?_
 refine b6 (S:=Nat × List Int) (fun s=> [(2,.pointer (some ⟨g2,0,none⟩)),(3,.slice A9 l0.length c9),(6,.pointer (some ⟨g6,0,none⟩)),(7,.int .i64 ((64*s.1:Nat):Int))])
  (fun s=>pt g6 ip (ee s.2)::rB (.slice A9 l0.length c9) l0::pt g2 t_api_ID (u8s (List.replicate 32 0))::F)
  (fun s=>s.2.length=8∧64*s.1≤l0.length∧∃ k,(l0.drop (64*s.1)).length≤k∧fm k s.2 (l0.drop (64*s.1))=fm l0.length ld l0) (fun s=>l0.length - 64*s.1) (0,ld) ⟨rfl,rfl,rfl,rfl,trivial⟩ (Ent.refl _)
  ⟨rfl,Nat.zero_le _,l0.length,by simp,by simp⟩ ?_
 rintro ⟨k,a'⟩ ⟨ha',hk,fuel,hf1,hf2⟩
 dsimp only at ha' hk hf1 hf2 ⊢
 refine ae <| bd4 <| bgj Z Z Z <| af Z <| bd3 ?_
 refine di Z (fun h=> ?_) (fun h=> ?_)
 ·have hk64:64*k+64≤l0.length:=by omega
  obtain ⟨gb,ob,rfl⟩:=h93 (by omega)
  refine ao <| aa <| ae <| ar <| kt flo 7 (pt g6 ip (ee a')::rB (.slice (some ⟨gb,ob,none⟩) l0.length c9) l0::pt g2 t_api_ID (u8s (List.replicate 32 0))::F) [] Z (by decide +kernel) (Ent.refl _) <| jm 0 Z Z Z Z Z Z (aza (a:=a') ha'.symm) Z Z <| ay Z Zl <| ay Z Zl <| ay Z Zl <| dj Z Z (by (unfold I64;omega)) <| dj Z Z (by omega) ?_
  have e1:(((64*k:Nat):Int)).toNat=64*k:=by omega
  have e2:(((64*k:Nat):Int)+64).toNat - 64*k=64:=by omega
  refine b4 51 (.slice (some ⟨gb,ob+64*k,none⟩) 64 (c9 - 64*k)) Z (by rw [e1,e2,a5e (by omega)]) ?_
  have hl64:((l0.take (64*k+64)).drop (64*k)).length=64:=by simp;omega
  refine dz Z Z Z Z (as6 (A:=a') (l:=(l0.take (64*k+64)).drop (64*k)) (fun w H=> ?_) (by omega) ha') ?_
  ·have:=VL.sub (l:=64*k) (h:=64*k+64) (A':=some ⟨gb,ob+64*k,none⟩) (c':=c9 - 64*k) (vlB (k:=1) Z w H) (by omega) (by omega) (by omega) (by omega) (fun _ bk off he=>by cases he;rfl) (fun he=>by cases he)
   have e3:64*k+64 - 64*k=64:=by omega
   rwa [e3] at this
  rintro _ _ ⟨rfl,rfl⟩
  refine ⟨Ent.refl _,?_⟩
  have hb8:=aar a' ((l0.take (64*k+64)).drop (64*k))
  have habs:∀ q,fuel=q+1→fm q (qp a' ((l0.take (64*k+64)).drop (64*k))) (l0.drop (64*(k+1)))=fm l0.length ld l0:=by
   intro q hq
   subst hq
   rw [← hf2,fm,if_pos (by simp;omega),List.drop_drop,List.drop_take,show 64*k+64 - 64*k=64 by omega,show 64*k+64=64*(k+1) by omega]
  generalize qp a' ((l0.take (64*k+64)).drop (64*k))=a2 at *
  refine az <| ku Z (dw _) ?_
  refine qr 0 Z Z Z Z Z Z Z Z (by rw [j6,hb8];rfl) (nv _) (by rw [j6,j6,hb8,ha']) (dw _) ?_
  refine az <| ba <| aa <| ab <| af Z <| b5 Z (by (unfold I64;omega)) <| af Z <| ad ?_
  have e4:((64*k:Nat):Int)+64=((64*(k+1):Nat):Int):=by omega
  refine bj (k+1,a2) ⟨rfl,rfl,rfl,by rw [← e4];rfl,trivial⟩ (Ent.refl _) ⟨hb8,by dsimp only;omega,?_⟩ ?_
  ·obtain ⟨q,rfl⟩:∃ q,fuel=q+1:=⟨fuel - 1,by simp at hf1;omega⟩
   exact ⟨q,by simp at hf1 ⊢;omega,habs q rfl⟩
  ·show l0.length - 64*(k+1)<l0.length - 64*k
   omega
 have hd0:l0.drop (64*k) = []:=List.drop_of_length_le (by omega)
 have hfin:(fm l0.length ld l0).1=a':=by
  rw [← hf2,hd0,pc _ _ _ (by simp)]
 have hR:alw xs=idM a':=by rw [alw,hE,hfin]
 rw [hR]
 refine bu <| av <| ax <| au <| aa <| bd4 <| ek Z Z Z Z Z fun g8=>bd3 <| ae <| bd4 <| af Z <| bd3 <| ar ?_
 refine b6 (S:=Nat) (fun s=> [(2,.pointer (some ⟨g2,0,none⟩)),(6,.pointer (some ⟨g6,0,none⟩)),(8,.pointer (some ⟨g8,0,none⟩)),(9,.int .i64 (s:Int))])
  (fun s=>pt g8 t_api_ID (u8s (idP a' s))::pt g6 ip (ee a')::pt g2 t_api_ID (u8s (List.replicate 32 0))::F)
  (fun s=>s≤32) (fun s=>32 - s) 0 ⟨rfl,rfl,rfl,rfl,trivial⟩ (ac 4 [0,1,3] Z Z) (Nat.zero_le _) ?_
 intro i hi
 have hpl:=auv a' i hi
 refine ae <| bd4 <| bgi Z Z <| bd3 ?_
 refine di Z (fun h=> ?_) (fun h=> ?_)
 ·refine ao <| aa <| ae <| ar <| ab <| bgi Z Z <| b5 Z (by omega) ?_
  have htd:IntKind.i64.wrap ((i:Int).tdiv 4)=((i / 4:Nat):Int):=by
   rw [Int.tdiv_eq_ediv_of_nonneg (by omega),I64.wrap (by unfold I64;omega)];omega
  have htm:(i:Int).tmod 4=((i % 4:Nat):Int):=by
   rw [Int.tmod_eq_emod_of_nonneg (by omega)];omega
  refine a4e (i / 4) Z Z Z htd (by omega) ?_
  refine kr 1 Z Z Z Z Z Z (by rw [bi];simpa using as1 (a:=a') (j:=i / 4) (by omega)) Z ?_
  refine af Z <| b5 Z (by omega) ?_
  (iterate 2 refine b5 Z (by (unfold I64;omega)) ?_)
  refine b5 Z (by omega) <| af Z <| b5 Z (by omega) ?_
  have e:min (24 - 8*((i % 4:Nat):Int)).toNat IntKind.u32.bits=24 - 8*(i % 4):=by
   show min _ 32=_
   omega
  refine a9 67 (.int .u8 (idB a' i)) Z (by simp only [htm,e,idB,List.getD_eq_getElem?_getD]) ?_
  skip
  refine ae8 0 Z Z Z Z Z Z Z Z (aci (r:=u8s (idP a' (i+1))) (by rw [bi];simp [hpl];omega) (by rw [bi];simpa using auw a' i (by omega))) Z ?_
  refine ad <| ba <| aa <| ab <| af Z <| b5 Z (by (unfold I64;omega)) <| af Z <| ad ?_
  refine bj (i+1) ⟨rfl,rfl,rfl,rfl,trivial⟩ (Ent.refl _) ?_ ?_
  ·show i+1≤32
   omega
  ·show 32 - (i+1)<32 - i
   omega
 obtain rfl:i=32:=by omega
 rw [aux] at *
 generalize idM a'=dg at *
 refine bu <| av <| ax <| au <| aa <| bd4 <| dk 0 Z Z Z Z Z Z (ig hpl) Z ?_
 refine im 2 Z Z Z Z Z Z Z (by rw [bg,hpl];rfl) (dt _) (by simp [hpl]) ?_
 refine bd3 <| aj ?_
 refine ai Z (.whole 2 Z Z Z Z (by rw [bg,hpl];rfl) .nil) (ac 3 [] Z Z) ?_
 exact ⟨rfl,rfl⟩

theorem a2p {b:World} {F:List SP} {vb:Value} {xs:List Int} {w:Int} (hlen:xs.length≤1000000) (hb:∀ w,Sat b F w→VL (Value.int .u8) w vb xs) :
  SC Tryz.prog xb [vb,.int .i64 w] b F (fun v F'=>v = .tuple ⟨[idV (ot (alw xs) w),.int .i64 (ad0 w)]⟩∧F'=F):=by
 have hcl:=uo (alw xs) w (aqp xs)
 refine bf Tryz.func156 Z Z Z <| bd4 <| ek Z Z Z Z Z fun g4=>af Z <| a8r <| af Z <| bh Z Z Z (azb hlen (up hb (ac 1 [] Z Z))) <| af Z <| bh Z Z Z (aqo (aqp xs)) ?_
 generalize ot (alw xs) w=d at *
 refine bgi Z Z ?_
 refine im 0 Z Z Z Z Z Z Z (by rw [bg,hcl];rfl) (dt _) (by simp [hcl]) ?_
 refine af Z <| bd3 <| aj ?_
 refine ai Z (.whole 0 Z Z Z Z (by rw [bg,hcl];rfl) (.tmp Z .nil)) (ac 1 [] Z Z) ?_
 exact ⟨rfl,rfl⟩

theorem ah0:∀ (k j:Nat) (a l:List Int),l.length≤k→l.length≤j→fm k a l=fm j a l
 | 0, j, a, l, h, _ => by
  have:l = []:=List.eq_nil_of_length_eq_zero (by omega)
  subst this
  rw [pc 0 a [] (by simp),pc j a [] (by simp)]
 | k + 1, 0, a, l, _, h => by
  have:l = []:=List.eq_nil_of_length_eq_zero (by omega)
  subst this
  rw [pc _ a [] (by simp),pc 0 a [] (by simp)]
 | k + 1, j + 1, a, l, h1, h2 => by
  rw [fm,fm]
  split
  ·exact ah0 k j _ _ (by simp;omega) (by simp;omega)
  ·rfl
theorem aj6:∀ (k:Nat) (a l m:List Int),l.length≤k→fm (k+m.length) a (l++m)=fm ((fm k a l).2.length+m.length) (fm k a l).1 ((fm k a l).2++m)
 | 0, a, l, m, h => by
  have:l = []:=List.eq_nil_of_length_eq_zero (by omega)
  subst this
  simp [fm]
 | k + 1, a, l, m, h => by
  by_cases h64:64≤l.length
  ·have e1:fm (k+1) a l=fm k (qp a (l.take 64)) (l.drop 64):=by rw [fm,if_pos h64]
   have ih:=aj6 k (qp a (l.take 64)) (l.drop 64) m (by simp;omega)
   rw [e1,← ih,show k+1+m.length=(k+m.length)+1 by omega,fm,if_pos (by simp;omega),List.take_append_of_le_length h64,List.drop_append_of_le_length h64]
  ·rw [pc (k+1) a l (by omega)]
   exact ah0 _ _ _ _ (by simp;omega) (by simp)
theorem azc {l m:List Int} (h:l.length % 64=m.length % 64):mt l=mt m:=by unfold mt;omega
theorem ah1:∀ (k:Nat) (a l:List Int),l.length≤k→(fm k a l).2.length=l.length % 64
 | 0, a, l, h => by
  have:l = []:=List.eq_nil_of_length_eq_zero (by omega)
  subst this;rfl
 | k + 1, a, l, h => by
  rw [fm]
  split
  ·rw [ah1 k _ _ (by simp;omega)];simp;omega
  ·show l.length=l.length % 64
   omega
theorem aqq (xs:List Int):as0 (fm xs.length ld xs).1 (fm xs.length ld xs).2 xs.length=(fm (ach xs xs.length).length ld (ach xs xs.length)).1:=by
 have hr:=ah1 xs.length ld xs (Nat.le_refl _)
 have hz:mt (fm xs.length ld xs).2=mt xs:=azc (by omega)
 have e:∀ l:List Int,mt l=mt xs→ach l xs.length=l++([128]++List.replicate (mt xs) 0++ze xs.length 8):=by
  intro l hl;simp [ach,hl]
 rw [as0,e _ hz,e xs rfl]
 generalize [128]++List.replicate (mt xs) 0++ze xs.length 8=m
 have:=aj6 xs.length ld xs m (Nat.le_refl _)
 rw [List.length_append,List.length_append,this]
theorem a6w (xs:List Int):alw xs=nx xs:=by rw [alw,nx,aqq]

theorem azd (x:Int):0≤IntKind.u8.wrap x∧IntKind.u8.wrap x<256:=by
 have:IntKind.u8.wrap x=x % 256:=by simp [IntKind.wrap,IntKind.signed,IntKind.bits]
 omega
theorem awm (xs:List Int):ii (nx xs):=by
 intro c hc
 simp only [nx,idM,List.mem_map] at hc
 obtain ⟨i,_,rfl⟩:=hc
 exact azd _
theorem awn {l:List Int} (h:ii l) (w:Int):ii (ot l w):=by
 intro c hc
 unfold ot at hc
 split at hc
 ·rw [List.eq_of_mem_replicate hc];omega
 ·rw [alv,List.mem_append] at hc
  rcases hc with hc | hc
  ·exact h c (List.mem_of_mem_take hc)
  ·rw [List.eq_of_mem_replicate hc];omega
def bf8:ByteArray:=⟨#[98,97,55,56,49,54,98,102,56,102,48,49,99,102,101,97,52,49,52,49,52,48,100,101,53,100,97,101,50,50,50,51,98,48,48,51,54,49,97,51,57,54,49,55,55,97,57,99,98,52,49,48,102,102,54,49,102,50,48,48,49,53,97,100]⟩
theorem rdA:bdj (ef bf8)=nx [97,98,99]:=by decide +kernel
theorem ag4 {x n:Int} (hx:x<0):x.tmod n = -((-x) % n):=by
 have h1:(-x).tmod n=(-x) % n:=Int.tmod_eq_emod_of_nonneg (by omega)
 rw [← h1,Int.neg_tmod,Int.neg_neg]
theorem a2q {x n:Int} (hn:0<n) : -n<x.tmod n∧x.tmod n<n:=by
 by_cases hx:x<0
 ·have:=Int.emod_nonneg (-x) (by omega:n≠0)
  have:=Int.emod_lt_of_pos (-x) hn
  rw [ag4 hx];omega
 ·have:=Int.emod_nonneg x (by omega:n≠0)
  have:=Int.emod_lt_of_pos x hn
  rw [Int.tmod_eq_emod_of_nonneg (by omega)];omega
theorem au2 {x n q s:Int} (h:x=n*q+s) (h0:0≤s) (h1:s<n):x % n=s:=by
 rw [h,Int.add_comm,Int.add_mul_emod_self_left,Int.emod_eq_of_lt h0 h1]
theorem a2r {x n:Int} (hn:0<n) (h:x.tmod n<0):x.tmod n+n=x % n:=by
 have hx:x<0:=by
  apply Classical.byContradiction
  intro hx
  have:=Int.emod_nonneg x (by omega:n≠0)
  rw [Int.tmod_eq_emod_of_nonneg (by omega)] at h;omega
 rw [ag4 hx] at h ⊢
 have h1:=Int.emod_lt_of_pos (-x) hn
 have h2:=Int.emod_add_mul_ediv (-x) n
 refine (au2 (q:= -((-x) / n) - 1) ?_ (by omega) (by omega)).symm
 rw [Int.mul_sub,Int.mul_neg];omega
theorem a2s {x n:Int} (hn:0<n) (h:¬ x.tmod n<0):x.tmod n=x % n:=by
 by_cases hx:x<0
 ·rw [ag4 hx] at h ⊢
  have h1:=Int.emod_nonneg (-x) (by omega:n≠0)
  have h2:=Int.emod_add_mul_ediv (-x) n
  have h3:(-x) % n=0:=by omega
  refine (au2 (q:= -((-x) / n)) ?_ (by omega) (by omega)).symm
  rw [Int.mul_neg];omega
 ·exact Int.tmod_eq_emod_of_nonneg (by omega)
theorem as7 {b:World} {F:List SP} {x n:Int} (hn:I64 n):SC Tryz.prog aeo [.int .i64 x,.int .i64 n] b F (fun v F'=>v = .int .i64 (if n≤0 then 0 else x % n)∧F'=F):=by
 unfold I64 at hn
 refine bf Tryz.func25 Z Z Z <| bd4 <| af Z <| bd3 <| ae <| bd4 <| bgi Z Z <| bd3 ?_
 refine di Z (fun h=> ?_) (fun h=> ?_)
 ·refine bd4 <| af Z <| bd3 <| aj <| ag <| ai Z (.tmp Z .nil) (Ent.refl _) ?_
  exact ⟨by rw [if_pos h];rfl,rfl⟩
 refine ao <| aa <| bd4 <| bgi Z Z <| b5 Z (by omega) <| af Z <| bd3 <| ae <| bd4 <| bgi Z Z <| bd3 ?_
 refine di Z (fun h2=> ?_) (fun h2=> ?_)
 ·refine ab <| bgi Z Z ?_
  have hb:=a2q (x:=x) (n:=n) (by omega)
  have e:=a2r (x:=x) (n:=n) (by omega) h2
  refine b5 Z (by (unfold I64;omega)) <| af Z <| a8r <| bgi Z Z <| bd3 <| aj <| ai Z (.tmp Z .nil) (Ent.refl _) ?_
  exact ⟨by rw [if_neg h,← e];rfl,rfl⟩
 refine ao <| aa <| bd4 <| bgi Z Z <| bd3 <| aj <| ai Z (.tmp Z .nil) (Ent.refl _) ?_
 exact ⟨by rw [if_neg h,← a2s (by omega) h2];rfl,rfl⟩

theorem a6x {l:List Int} {i:Nat} {x:Int} (h:i<l.length):spl (u8s l) i [.int .u8 x]=u8s (l.set i x):=by
 simp only [spl,u8s,List.map_set,List.length_cons,List.length_nil,List.cons_append,List.nil_append,Nat.zero_add]
 rw [List.set_eq_take_append_cons_drop,if_pos (by simpa using h)]
theorem aqr {b:World} {F:List SP} {v:Value} {l:List Int} (hl:l.length≤1048576):SC Tryz.prog y6 [v] b (rB v l::F) (fun _ F'=>∃ l',F'=rB v l'::F):=by
 refine bf Tryz.func48 Z Z Z <| bt (fun w H=>(H.oat (k:=0) Z).form) ?_
 rintro ⟨A,c,rfl,h1,h2,h3⟩
 refine bd4 <| af Z <| bd3 <| ar <| b6 (S:=Nat × List Int) (fun s=> [(0,.slice A l.length c),(2,.int .i64 (s.1:Int))]) (fun s=>row pq 1 (.slice A l.length c) l.length (u8s s.2)::F) (fun s=>s.1≤l.length∧s.2.length=l.length) (fun s=>l.length - s.1) (0,l) ⟨rfl,rfl,trivial⟩ (Ent.refl _) ⟨Nat.zero_le _,rfl⟩ ?_
 rintro ⟨i,m⟩ ⟨hi,hm⟩
 dsimp only at hi hm ⊢
 refine ae <| bd4 <| bgj Z Z Z <| af Z <| bd3 ?_
 refine di Z (fun h=> ?_) (fun h=> ?_)
 ·obtain ⟨g,o,rfl⟩:=h3 (by omega)
  have hvl:∀ w,Sat b (row pq 1 (.slice (some ⟨g,o,none⟩) l.length c) l.length (u8s m)::F) w→VL (Value.int .u8) w (.slice (some ⟨g,o,none⟩) l.length c) m:=fun w H=>by
   have:=(H.oat (k:=0) Z).sl
   unfold VL;rw [hm];exact this
  refine ao <| aa <| ae <| ar <| ab <| bgj Z Z Z <| af Z <| b5 Z (by omega) ?_
  refine iu Z (fun w H=>bm Z Z Z (by rw [bi];simpa using VL.at (hvl w H) i (by omega))) Z ?_
  refine af Z <| b5 Z (by omega) ?_
  refine uf 0 i Z Z Z Z Z Z Z Z (a6x (by omega)) Z (by rw [bi];simp) (by simp;omega) (dt [_]) ?_
  refine ad <| ba <| aa <| ab <| af Z <| b5 Z (by (unfold I64;omega)) <| af Z <| ad ?_
  refine bj (i+1,_) ⟨rfl,rfl,trivial⟩ (Ent.refl _) ⟨by omega,by simp [hm]⟩ ?_
  show l.length - (i+1)<l.length - i
  omega
 refine bu <| av <| ax <| au <| m5 Z .nil (Ent.refl _) ?_
 exact ⟨m,by rw [rB,hm]⟩

def ut:List Int:= [201,202,203,204]
abbrev rL (A:Option Addr) (c:Nat) (l:List Int):SP:=row pq 1 (.slice A (l.length+4) c) (l.length+4) (u8s (l++ut))
theorem a5f {b:World} {F:List SP} {A:Option Addr} {c k:Nat} {l:List Int} (hk:nth F k=some (rL A c l)):∀ w,Sat b F w→VL (Value.int .u8) w (.slice A l.length c) l:=fun w H=>by
 have:=(Oat.take (H.oat hk) (k:=l.length) (by omega)).sl
 rw [show (u8s (l++ut)).take (l.length*1)=u8s l by simp [u8s]] at this
 exact this
theorem a6y {b:World} {F:List SP} {A:Option Addr} {c k:Nat} {l:List Int} (hk:nth F k=some (rL A c l)):∀ w,Sat b F w→VL (Value.int .u8) w (.slice A (l.length+4) c) (l++ut):=fun w H=>by
 have:=(H.oat hk).sl
 unfold VL
 rw [show (l++ut).length=l.length+4 by simp [ut]]
 exact this
theorem acj {b:World} {F:List SP} {va:Value} {l:List Int} (hl:l.length≤1000000) (ha:∀ w,Sat b F w→VL (Value.int .u8) w va l) :
  SC Tryz.prog y3 [va] b F (fun v F'=>∃ A c,v = .slice A l.length c∧F'=rL A c l::F):=by
 refine bf Tryz.func42 Z Z Z <| bt (fun w H=>(ha w H).form) ?_
 rintro ⟨A,c,rfl,h1,h2,h3,h4⟩
 refine bd4 <| af Z <| a8r <| p5 [] Z Z Z Z Z Z Z Z Z fun g0=>fq (iz (n:=0) (sz:=1) Z Z (by decide) 0 Z Z) <| af Z <| dx 0 Z Z Z Z Z Z Z Z Z (up ha (ac 1 [] Z Z)) (dt _) (by omega) (fun _=>rfl) fun v6=>p5 [.int .u8 201,.int .u8 202,.int .u8 203,.int .u8 204] Z Z Z Z Z Z Z Z Z fun g7=> ?_
 refine dx 1 Z Z Z Z Z Z Z Z Z (vl1 (l:=ut) (k:=0) Z (by decide) Z) (dt ut) (by simp [ut];omega) (fun _=>rfl) fun v8=> ?_
 refine b9 (fun w H=>(H.oat (k:=1) Z).form) ?_
 rintro ⟨A8,c8,rfl,k1,k2,k3⟩
 have e4:0+l.length+ut.length=l.length+4:=by simp [ut]
 rw [e4] at k1 ⊢
 refine fq ((pk (B:=rL A8 c8 l) 1 Z (fun h hA=>by simpa [rL] using hA) Z).trans (ac 2 [1] Z Z)) ?_
 refine af Z <| a8r <| bgj Z Z Z <| b5 Z (by omega) <| af Z <| bd3 <| aj <| ai Z (.tmp Z .nil) (Ent.refl _) ?_
 exact ⟨A8,c8,rfl,rfl⟩
theorem bdk {P:Program} {ro:Option Nat} {N:Nat} {fl:Oper→Bool} {l rest:List Oper} {kk:Nat} {Q:Exit→Act→World→Prop} {E:List (Nat × Value)} {ds:List Deferred} {b:World} {F0 F:List SP}
  {d:Nat} {op:Op} {ty:TypeId} {pos:String} {aft:Array Edge} {g:Option (Nat × Bool)} {v:Value} (hg:cp l E g=some true) (hf:fl ⟨some d,op,ty,pos,aft,g⟩=false) (hx:∀ w,Sat b F w→Ex P E op ty w v w) (hd:Nat.blt d N=true) (he:Ent F F0)
  (h:SD P fl ro N F0 l (kk+1) rest Q ((d,v)::E) ds b F):SD P fl ro N F0 l kk (⟨some d,op,ty,pos,aft,g⟩::rest) Q E ds b F:=by
 constructor
 intro w H
 exact abc hg hf (hx w H) (H.ent he) hd (h.1 w H)
def bf9 (n:Nat) (o:Oper):Bool:=flo o&&(match o.dst with | some d=> !Nat.beq d n | none=>true)
theorem aqs {b:World} {F:List SP} {A:Option Addr} {c:Nat} {vb:Value} {l:List Int} (hl:l.length≤1000000) (hb:∀ w,Sat b F w→VL (Value.int .u8) w vb l) :
  SC Tryz.prog y5 [.slice A l.length c,vb] b (rL A c l::F) (fun v F'=>v = .bool true∧F'=rL A c l::F):=by
 refine bf Tryz.func47 Z Z Z <| bt (fun w H=>(hb w (H.ent (ac 1 [] Z Z))).form) ?_
 rintro ⟨bA,bc,rfl,h1,h2,h3,h4⟩
 refine bt (fun w H=>(H.oat (k:=0) Z).form) ?_
 rintro ⟨A',c',hv,k1,k2,k3⟩
 cases hv
 obtain ⟨gg,oo,rfl⟩:=k3 (by omega)
 refine bd4 <| af Z <| a8r <| bgj Z Z Z <| b5 Z (by omega) <| af Z <| bd3 <| ae <| b7 (bf9 40) (rL (some ⟨gg,oo,none⟩) c l::F) (by decide +kernel) (Ent.refl _) ?_
 (iterate 6 refine ay Z Zl ?_)
 refine b4 15 (.bool true) Z (congrArg Value.bool (decide_eq_true Z)) <| ay Z Zl <| ajc Z Z Z Z Z Z Z Z (a5f (k:=0) Z) <| ay Z Zl <| ajc Z Z Z Z Z Z Z Z (up hb (ac 1 [] Z Z)) <| ay Z Zl <| ay Z Zl <| ay Z Zl <| b4 22 (.bool true) Z (congrArg Value.bool (decide_eq_true Z)) <| ay Z Zl <| ay Z Zl <| ay Z Zl <| ay Z Zl <| dj Z Z (by (unfold I64;omega)) <| ay Z Zl <| ay Z Zl <| ay Z Zl <| b4 30 (.bool true) Z (congrArg Value.bool (decide_eq_true (by omega))) ?_
 (iterate 5 refine ay Z Zl ?_)
 refine dj Z Z (by (unfold I64;omega)) <| dj Z Z (by omega) ?_
 have e1:((l.length:Int)).toNat=l.length:=by omega
 have e2:((l.length:Int)+4).toNat - l.length=4:=by omega
 refine b4 37 (.slice (some ⟨gg,oo+l.length,none⟩) 4 (c - l.length)) Z (by rw [e1,e2,a5e (by omega)]) ?_
 refine ajc (xs:=ut) Z Z Z Z Z Z Z Z (fun w H=> ?_) ?_
 ·have:=VL.sub (l:=l.length) (h:=l.length+4) (A':=some ⟨gg,oo+l.length,none⟩) (c':=c - l.length) (a6y (k:=0) Z w H) (by omega) (by simp [ut]) (by omega) (by omega) (fun _ bk off he=>by cases he;rfl) (fun he=>by cases he)
  rw [show l.length+4 - l.length=4 by omega] at this
  rwa [show ((l++ut).take (l.length+4)).drop l.length=ut by rw [List.take_of_length_le (by simp [ut])];simp] at this
 refine ax8 (ut.map (Value.int .u8)) Z Z Z Z Z Z Z Z Z Z (Ent.refl _) fun g2=>bdk Z Z (fun w H=>asf Z Z Z Z (vl1 (l:=ut) (k:=0) Z (by decide) Z w H)) Z (ac 1 [] Z Z) <| ay Z Zl <| ay Z Zl <| ay Z Zl <| az <| aa <| aj <| ai Z (.tmp Z .nil) (ac 1 [] Z Z) ?_
 exact ⟨by simp [agn],rfl⟩
theorem aze {xs:List Int} (h:∀ x∈xs,(Lit.int .u8 x).wf=true):ii xs:=by
 intro x hx
 have:=h x hx
 simp [Lit.wf,IntKind.min,IntKind.max,IntKind.signed,IntKind.bits] at this
 omega
open Go.WideMaps

theorem bdl:ArrKey Tryz.prog t_api_ID pq 32:=⟨by kernel_rfl,by kernel_rfl,by kernel_rfl,by kernel_rfl⟩
def idOk (a:List Int):Prop:=a.length=32∧∀ x∈a,(Lit.int .u8 x).wf=true
theorem a2t:MK Tryz.prog t_api_ID (fun a:List Int=> .agg ⟨a.map (Value.int .u8)⟩) idOk:=a2d bdl (by kernel_rfl) ⟨_,(by kernel_rfl:Tryz.prog.types.size=(Tryz.prog.types.size - 1)+1)⟩

structure Kp where
 id:List Int
 b:List Int
 g:Nat
 v:Value
def kP (e:Kp):List SP:= [pt e.g ab9 [e.v],rB e.v e.b]
def kF:List Kp→List SP
 | [] => []
 | e :: l => kP e ++ kF l
def kM:List Kp→List (List Int × Value)
 | [] => []
 | e :: l => (e.id, .pointer (some ⟨e.g, 0, none⟩)) :: kM l
def kw (a:List Int):List Kp→Option Kp
 | [] => none
 | e :: l => if e.id = a then some e else kw a l
abbrev mpB (gm:Nat) (l:List Kp):SP:=mp gm (fun a:List Int=> .agg ⟨a.map (Value.int .u8)⟩) idOk (kM l)
abbrev stC (w r u:Int) (gm:Nat):List Value:= [.int .i64 w,.int .i64 r,.int .i64 u,.map (some gm)]
abbrev stB (gs gm:Nat) (w r u:Int) (l:List Kp) (F:List SP):List SP:=pt gs m9 (stC w r u gm)::mpB gm l::all (kF l)::F

theorem as8 (a:List Int) (l:List Kp):ow a (kM l)=(kw a l).map fun e=> .pointer (some ⟨e.g,0,none⟩):=by
 induction l with
 | nil => rfl
 | cons e l ih =>
  simp only [kM,ow,kw]
  split
  ·rfl
  ·exact ih
theorem au3 {l:List Kp} {a:List Int} {e:Kp} (h:kw a l=some e):∃ l1 l2,l=l1++e::l2∧e.id=a∧kw a l1=none∧(kF l).Perm (kP e++kF (l1++l2)):=by
 induction l with
 | nil => cases h
 | cons x l ih =>
  simp only [kw] at h
  split at h
  ·cases h
   exact ⟨[],l,rfl,by assumption,rfl,List.Perm.refl _⟩
  ·rename_i hx
   obtain ⟨l1,l2,rfl,h1,h2,h3⟩:=ih h
   refine ⟨x::l1,l2,rfl,h1,by simp only [kw];rw [if_neg hx];exact h2,?_⟩
   simp only [kF,List.cons_append]
   refine (h3.append_left (kP x)).trans ?_
   rw [← List.append_assoc,← List.append_assoc]
   exact List.perm_append_comm.append_right _

section
variable {b:World} {F:List SP} {gs gm:Nat} {w r u:Int} {l:List Kp}
theorem aj7:SC Tryz.prog p6 [.pointer (some ⟨gs,0,none⟩)] b (stB gs gm w r u l F) (fun v F'=>v = .bool false∧F'=stB gs gm w r u l F):=by
 refine bf Tryz.func91 Z Z Z <| bd4 <| af Z <| a8r ?_
 (iterate 6 refine af Z ?_)
 refine df 0 Z Z Z <| bgj Z Z Z <| bd3 <| aj <| ai Z (.tmp Z .nil) (ac 0 [] Z Z) ?_
 exact ⟨rfl,rfl⟩
end

section
variable {b:World} {F:List SP} {gs gm:Nat} {w r u:Int} {l:List Kp}
theorem a2u:SC Tryz.prog uk [.pointer (some ⟨gs,0,none⟩)] b (stB gs gm w r u l F) (fun v F'=>v = .int .i64 w∧F'=stB gs gm w r u l F):=by
 refine bf Tryz.func58 Z Z Z <| bd4 <| af Z <| bd3 <| ae <| bd4 <| af Z <| bh Z Z Z (aj7) <| bd3 <| al Z <| ao <| aa <| bd4 <| bgj Z Z Z <| df 0 Z Z Z <| af Z <| bd3 <| aj <| ai Z (.tmp Z .nil) (ac 0 [] Z Z) ?_
 exact ⟨rfl,rfl⟩
def ah2 (w r:Int):Prop:=¬ w<1∧¬ 32<w∧¬ r<0∧¬ 67108864<r
theorem as9 (h:ah2 w r):SC Tryz.prog ajr [.int .i64 w,.int .i64 r] b F (fun v F'=>∃ gs gm,v = .tuple ⟨[.pointer (some ⟨gs,0,none⟩),.int .i64 0]⟩∧F'=stB gs gm w r 0 [] F):=by
 obtain ⟨h1,h2,h3,h4⟩:=h
 refine bf Tryz.func11 Z Z Z <| bd4 <| bgi Z Z <| bd3 <| ae <| bd4 <| bgj Z Z Z <| f0 8 Z (fun h=>(h1 h).elim) (fun h=>bgj Z Z Z <| af Z <| f0 12 Z (fun h=>(h2 h).elim) (fun h=>bgj Z Z Z <| af Z <| f0 16 Z (fun h=>(h3 h).elim) (fun h=>bgj Z Z Z <| bd3 <| di Z (fun h=>(h4 h).elim) (fun h=>ao <| aa <| bd4 <| bgi Z Z <| ae9 (fun a:List Int=> .agg ⟨a.map (Value.int .u8)⟩) idOk Z Z Z fun gm=>af Z <| cq Z Z Z Z Z fun gs=>bgi Z Z <| bd3 <| aj <| ai Z (.tmp Z (.tmp Z .nil)) ((ac 2 [0,1] Z Z).trans ((ji (G:= []) (F:=pt gs m9 (stC w r 0 gm)::mpB gm []::F)).trans (ac 3 [1,2,0] Z Z))) ?_))))
 exact ⟨gs,gm,rfl,rfl⟩
theorem aqt {a:List Int} {e:Kp} (h:kw a l=some e):∃ l1 l2,l=l1++e::l2∧e.id=a∧kw a l1=none∧(∀ F,Ent (all (kF l)::F) (pt e.g ab9 [e.v]::rB e.v e.b::all (kF (l1++l2))::F))∧∀ F,Ent (pt e.g ab9 [e.v]::rB e.v e.b::all (kF (l1++l2))::F) (all (kF l)::F):=by
 obtain ⟨l1,l2,h1,h2,h3,h4⟩:=au3 h
 exact ⟨l1,l2,h1,h2,h3,fun F=>tz h4,fun F=>ql h4⟩
theorem azf {id:List Int} {e:Kp} (hid:idOk id) (h:kw id l=some e) (hlen:e.b.length≤1000000) :
  SC Tryz.prog aep [.pointer (some ⟨gs,0,none⟩),idV id] b (stB gs gm w r u l F) (fun v F'=>∃ v1,v = .tuple ⟨[v1,.bool true]⟩∧F'=rB v1 e.b::stB gs gm w r u l F):=by
 obtain ⟨l1,l2,h1,h2,h3,h4,h5⟩:=aqt (l:=l) h
 refine bf Tryz.func30 Z Z Z <| bd4 <| cq Z Z Z Z Z fun gi=>bgi Z Z <| bd3 <| ae <| bd4 <| af Z <| bh Z Z Z ((aj7 (F:=pt gi t_api_ID (u8s id)::F)).at (ac 4 [1,2,3,0] Z Z) (ac 4 [3,0,1,2] Z Z)) <| bd3 <| al Z <| ao <| aa <| ae <| b7 flo (pt gi t_api_ID (u8s id)::stB gs gm w r u l F) (by decide +kernel) (Ent.refl _) <| ay Z Zl <| ay Z Zl <| ay Z Zl <| de 1 Z Z Z Z <| jm 0 Z Z Z Z Z Z (ig hid.1) Z Z ?_
 refine abl 2 a2t hid (by rw [as8,h];rfl) Z Z Z Z Z Z Z Z Z ?_
 (iterate 5 refine ay Z Zl ?_)
 refine az <| aa <| ae <| bd4 <| fq ((ac 4 [3,0,1,2] Z Z:Ent _ (all (kF l)::pt gi t_api_ID (u8s id)::pt gs m9 (stC w r u gm)::mpB gm l::F)).trans (h4 _)) <| bgi Z Z <| bd3 <| al Z <| ao <| aa <| bd4 <| bgj Z Z Z <| df 0 Z Z Z <| bq Z Z Z (SC.ofMade fun w H=>aey (vlB (k:=1) Z w H) (by omega)) ?_
 rintro v1 _ rfl
 refine fq (qq (l:=e.b) 0 Z Z Z Z) <| bgi Z Z <| bd3 <| aj <| ai Z (.tmp Z (.tmp Z .nil)) ((ik (h5 _)).trans (ac 5 [0,3,4,1] Z Z)) ?_
 exact ⟨v1,rfl,rfl⟩
end

section
variable {b:World} {F:List SP} {gs gm:Nat} {w r u:Int} {l:List Kp}
theorem awo {id:List Int} {e:Kp} (hid:idOk id) (h:kw id l=some e) (hlen:e.b.length≤1000000) :
  SC Tryz.prog vd [.pointer (some ⟨gs,0,none⟩),idV id] b (stB gs gm w r u l F) (fun v F'=>v = .tuple ⟨[.int .i64 e.b.length,.bool true]⟩∧F'=stB gs gm w r u l F):=by
 refine bf Tryz.func63 Z Z Z <| bd4 <| cq Z Z Z Z Z fun gi=>bgi Z Z <| a8r <| af Z <| dk 0 Z Z Z Z Z Z (ig hid.1) Z <| bq Z Z Z ((azf (F:=pt gi t_api_ID (u8s id)::F) hid h hlen).ent (ac 4 [1,2,3,0] Z Z)) ?_
 rintro _ _ ⟨v1,rfl,rfl⟩
 refine b9 (fun w H=>(H.oat (k:=0) Z).form) ?_
 rintro ⟨A7,c7,rfl,_,_,_⟩
 (iterate 5 refine af Z ?_)
 refine a8r ?_
 (iterate 5 refine af Z ?_)
 refine bd3 <| aj <| ai Z (.tmp Z (.tmp Z .nil)) (ac 5 [1,2,3] Z Z) ?_
 exact ⟨rfl,rfl⟩
end

theorem a2v (x:Int):(Lit.int .u8 x).wf=true↔0≤x∧x<256:=by
 have h1:IntKind.u8.min=0:=by decide
 have h2:IntKind.u8.max=255:=by decide
 simp [Lit.wf,h1,h2];omega
theorem a2w {a:List Int} (h:a.length=32) (hw:ii a):idOk a:=⟨h,fun x hx=>(a2v x).2 (hw x hx)⟩
theorem amh:∀ {x y:List Int},ii x→ii y→(strOfNums x).data=(strOfNums y).data→x=y:=by
 have key:∀ z:List Int,ii z→(z.map fun n=>UInt8.ofNat n.toNat).map (fun u=>(u.toNat:Int))=z:=fun z hz=>by
  rw [List.map_map]
  conv=>rhs;rw [← List.map_id z]
  refine List.map_congr_left fun n hn=> ?_
  have:=hz n hn
  simp only [Function.comp,id,UInt8.toNat_ofNat']
  omega
 intro x y hx hy h
 have h1:(strOfNums x).data.toList=(strOfNums y).data.toList:=by rw [h]
 simp only [strOfNums] at h1
 rw [← key x hx,← key y hy,h1]
theorem awp {x y:List Int} (hx:ii x) (hy:ii y):decide ((strOfNums x).data=(strOfNums y).data)=decide (x=y):=decide_eq_decide.2 ⟨amh hx hy,fun h=>by rw [h]⟩
section
variable {b:World} {F:List SP}
theorem aog {e:Int}:SC Tryz.prog ahx [.bool true,.int .i64 e] b F (fun v F'=>v = .int .i64 e∧F'=F):=by
 refine bf Tryz.func126 Z Z Z <| bd4 <| af Z <| bd3 <| ae <| bd4 <| af Z <| bd3 <| aq Z <| bd4 <| bgi Z Z <| bd3 <| aj <| ag <| ai Z (.tmp Z .nil) (ac 0 [] Z Z) ?_
 exact ⟨rfl,rfl⟩
theorem ag5 {e:Int}:SC Tryz.prog ahx [.bool false,.int .i64 e] b F (fun v F'=>v = .int .i64 0∧F'=F):=by
 refine bf Tryz.func126 Z Z Z <| bd4 <| af Z <| bd3 <| ae <| bd4 <| af Z <| bd3 <| al Z <| ao <| aa <| bd4 <| af Z <| bd3 <| aj <| ai Z (.tmp Z .nil) (ac 0 [] Z Z) ?_
 exact ⟨rfl,rfl⟩
theorem a2x {va vb:Value} {xs ys:List Int} (ha:∀ w,Sat b F w→VL (Value.int .u8) w va xs) (hb:∀ w,Sat b F w→VL (Value.int .u8) w vb ys) :
  SC Tryz.prog alm [va,vb] b F (fun v F'=>v = .bool (decide ((strOfNums xs).data=(strOfNums ys).data))∧F'=F):=by
 refine bf Tryz.func129 Z Z Z <| bd4 <| af Z <| a8r <| af Z <| ax4 Z Z Z Z Z Z Z ha <| af Z <| ax4 Z Z Z Z Z Z Z hb <| bgi Z Z <| bd3 <| aj <| ai Z (.tmp Z .nil) (ac 0 [] Z Z) ?_
 exact ⟨rfl,rfl⟩

variable {A:SP} {g9 g8 g5 g4 g3 gs gm:Nat} {is:Bool} {old vb:Value} {id xs:List Int} {w r u:Int} {l:List Kp}
abbrev ack (g9 g8 g5 g4 g3:Nat) (is:Bool) (old vb:Value) (id:List Int) (gs gm:Nat) (w r u:Int) (l:List Kp) (F:List SP):List SP :=
 pt g9 ab8 [.bool is]::pt g8 ad8 [old]::pt g5 tr [vb]::pt g4 t_api_ID (u8s id)::pt g3 fb [.pointer (some ⟨gs,0,none⟩)]::stB gs gm w r u l F
theorem azg (hb:∀ w,Sat b F w→VL (Value.int .u8) w vb xs) (hlen:xs.length≤1000000) :
  SC Tryz.prog f5 [.pointer (some ⟨g5,0,none⟩)] b (A::ack g9 g8 g5 g4 g3 is old vb id gs gm w r u l F) (fun v F'=>v = .int .i64 (if 4096<xs.length then 4 else 0)∧F'=A::ack g9 g8 g5 g4 g3 is old vb id gs gm w r u l F):=by
 refine bf Tryz.func125 Z Z Z <| bt (fun w H=>(hb w (H.ent (ac 9 [] Z Z))).form) ?_
 rintro ⟨bA,bc,rfl,h1,h2,h3,h4⟩
 refine bd4 <| af Z <| a8r <| df 3 Z Z Z <| bgi Z Z ?_
 by_cases h:4096<xs.length
 ·refine a9 4 (.bool true) Z (congrArg Value.bool (decide_eq_true (by omega))) <| bh Z Z Z (aog) <| af Z <| bd3 <| aj <| ai Z (.tmp Z .nil) (ac 0 [] Z Z) ?_
  exact ⟨by rw [if_pos h];rfl,rfl⟩
 ·refine a9 4 (.bool false) Z (congrArg Value.bool (decide_eq_false (by omega))) <| bh Z Z Z (ag5) <| af Z <| bd3 <| aj <| ai Z (.tmp Z .nil) (ac 0 [] Z Z) ?_
  exact ⟨by rw [if_neg h];rfl,rfl⟩
theorem azh (hb:∀ w,Sat b F w→VL (Value.int .u8) w vb xs) (hlen:xs.length≤1000000) (hid:id.length=32) :
  SC Tryz.prog ge [.pointer (some ⟨g5,0,none⟩),.pointer (some ⟨g3,0,none⟩),.pointer (some ⟨g4,0,none⟩)] b (A::ack g9 g8 g5 g4 g3 is old vb id gs gm w r u l F)
   (fun v F'=>v = .int .i64 (if ot (nx xs) w=id then 0 else 8)∧F'=A::ack g9 g8 g5 g4 g3 is old vb id gs gm w r u l F):=by
 have hcl:=uo (nx xs) w (zf xs)
 have hOf:∀ {b:World} {F:List SP},(∀ w,Sat b F w→VL (Value.int .u8) w vb xs)→SC Tryz.prog ap7 [vb,.int .i64 w] b F (fun v F'=>v = .tuple ⟨[idV (ot (nx xs) w),.int .i64 (ad0 w)]⟩∧F'=F):=fun h=>bf6 hlen h
 generalize ot (nx xs) w=own at *
 generalize ad0 w=ce at *
 refine bf Tryz.func127 Z Z Z <| bd4 <| af Z <| bd3 <| ae ?_
 refine abm 10 [8] (fl:=flo) [] [(0,.pointer (some ⟨g5,0,none⟩)),(1,.pointer (some ⟨g3,0,none⟩)),(2,.pointer (some ⟨g4,0,none⟩))] ⟨rfl,rfl,rfl,trivial⟩ Z (by kernel_rfl) (by kernel_rfl) (by decide) ?_
 refine aji 3 Z Z Z Z (fun _=>rfl) Z Z <| aji 5 Z Z Z Z (fun _=>rfl) Z Z <| ale (fun _=>rfl) <| ale (fun _=>rfl) <| aji 6 Z Z Z Z (fun _=>rfl) Z Z <| a2e Z (fun _=>rfl) (fun w H=>SC.pure (hOf fun w' H'=>(hb w (H.ent (ac 9 [] Z Z))).ext (H'.is (k:=0) Z))) <| ale (fun _=>rfl) <| ale (fun _=>rfl) <| ale (fun _=>rfl) <| asm Z Z Z Z <| .done Z fun gg=>⟨dw _,?_⟩
 skip
 refine qr 0 Z Z Z Z Z Z Z Z (by rw [bg,hcl];rfl) (dt _) (by simp [hcl]) (dw _) ?_
 refine ay Z Zl <| az <| aa <| bd4 <| dk 0 Z Z Z Z Z Z (ig hcl) Z <| dk 5 Z Z Z Z Z Z (ig hid) Z <| uc Z (anl (as00:=own) (bs:=id) Z Z hcl hid) Z ?_
 by_cases h:own=id
 ·refine a9 17 (.bool false) Z (by simp [h]) ?_
  refine bh Z Z Z (ag5) <| af Z <| bd3 <| aj <| ai Z (.tmp Z .nil) (ac 1 [] Z Z) ?_
  exact ⟨by rw [if_pos h];rfl,rfl⟩
 ·refine a9 17 (.bool true) Z (by simp [h]) ?_
  refine bh Z Z Z (aog) <| af Z <| bd3 <| aj <| ai Z (.tmp Z .nil) (ac 1 [] Z Z) ?_
  exact ⟨by rw [if_neg h];rfl,rfl⟩
theorem a6z:SC Tryz.prog fh [.pointer (some ⟨g9,0,none⟩),.pointer (some ⟨g8,0,none⟩),.pointer (some ⟨g5,0,none⟩)] b (A::ack g9 g8 g5 g4 g3 false old vb id gs gm w r u l F)
   (fun v F'=>v = .int .i64 0∧F'=A::ack g9 g8 g5 g4 g3 false old vb id gs gm w r u l F):=by
 refine bf Tryz.func128 Z Z Z <| bd4 <| af Z <| bd3 <| ae <| b7 flo (A::ack g9 g8 g5 g4 g3 false old vb id gs gm w r u l F) (by decide +kernel) (Ent.refl _) <| de 1 Z Z Z Z ?_
 (iterate 6 refine ay Z Zl ?_)
 refine ay Z (.inr Z) <| ay Z Zl <| ay Z Zl <| cz Z Z Z Z (ag5) (Ent.refl _) <| ay Z Zl <| az <| aa <| aj <| ai Z (.tmp Z .nil) (ac 0 [] Z Z) ?_
 exact ⟨rfl,rfl⟩
theorem a60 {e:Kp} (hb:∀ w,Sat b F w→VL (Value.int .u8) w vb xs) (hlen:xs.length≤1000000) (hw:ii xs) (he:kw id l=some e) (hew:ii e.b) :
  SC Tryz.prog fh [.pointer (some ⟨g9,0,none⟩),.pointer (some ⟨g8,0,none⟩),.pointer (some ⟨g5,0,none⟩)] b (A::ack g9 g8 g5 g4 g3 true (.pointer (some ⟨e.g,0,none⟩)) vb id gs gm w r u l F)
   (fun v F'=>v = .int .i64 (if e.b=xs then 0 else 9)∧F'=A::ack g9 g8 g5 g4 g3 true (.pointer (some ⟨e.g,0,none⟩)) vb id gs gm w r u l F):=by
 obtain ⟨l1,l2,h1,h2,h3,h4,h5⟩:=aqt (l:=l) he
 refine bf Tryz.func128 Z Z Z <| bd4 <| af Z <| bd3 <| ae <| abh ((ac 9 [8,0,1,2,3,4,5,6,7] Z Z:Ent _ (all (kF l)::A::pt g9 ab8 [.bool true]::pt g8 ad8 [.pointer (some ⟨e.g,0,none⟩)]::pt g5 tr [vb]::pt g4 t_api_ID (u8s id)::pt g3 fb [.pointer (some ⟨gs,0,none⟩)]::pt gs m9 (stC w r u gm)::mpB gm l::F)).trans (h4 _)) <| b7 flo _ (by decide +kernel) (Ent.refl _) <| de 4 Z Z Z Z <| ay Z Zl <| de 5 Z Z Z Z <| ay Z Zl <| ay Z Zl <| de 0 Z Z Z Z <| de 6 Z Z Z Z <| cz Z Z Z Z (a2x (vlB (k:=1) Z) (up hb (ac 11 [] Z Z))) (Ent.refl _) <| ay Z Zl <| ay Z Zl ?_
 have hdec:=awp hew hw
 by_cases h:e.b=xs
 ·refine b4 13 (.bool false) Z (by simp [hdec,h]) ?_
  refine cz Z Z Z Z (ag5) (Ent.refl _) <| ay Z Zl <| az <| aa <| aj <| ai Z (.tmp Z .nil) ((h5 _).trans (ac 9 [1,2,3,4,5,6,7,8,0] Z Z)) ?_
  exact ⟨by rw [if_pos h];rfl,rfl⟩
 ·refine b4 13 (.bool true) Z (by simp [hdec,h]) ?_
  refine cz Z Z Z Z (aog) (Ent.refl _) <| ay Z Zl <| az <| aa <| aj <| ai Z (.tmp Z .nil) ((h5 _).trans (ac 9 [1,2,3,4,5,6,7,8,0] Z Z)) ?_
  exact ⟨by rw [if_neg h];rfl,rfl⟩
theorem a61:SC Tryz.prog fj [.pointer (some ⟨g9,0,none⟩),.pointer (some ⟨g3,0,none⟩),.pointer (some ⟨g5,0,none⟩)] b (A::ack g9 g8 g5 g4 g3 true old vb id gs gm w r u l F)
   (fun v F'=>v = .int .i64 0∧F'=A::ack g9 g8 g5 g4 g3 true old vb id gs gm w r u l F):=by
 refine bf Tryz.func130 Z Z Z <| bd4 <| af Z <| bd3 <| ae <| b7 flo (A::ack g9 g8 g5 g4 g3 true old vb id gs gm w r u l F) (by decide +kernel) (Ent.refl _) <| de 1 Z Z Z Z ?_
 (iterate 15 refine ay Z Zl ?_)
 refine cz Z Z Z Z (ag5) (Ent.refl _) <| ay Z Zl <| az <| aa <| aj <| ai Z (.tmp Z .nil) (ac 0 [] Z Z) ?_
 exact ⟨rfl,rfl⟩
theorem a62 (hb:∀ w,Sat b F w→VL (Value.int .u8) w vb xs) (hlen:xs.length≤1000000) (hu:0≤u∧u≤67108864) :
  SC Tryz.prog fj [.pointer (some ⟨g9,0,none⟩),.pointer (some ⟨g3,0,none⟩),.pointer (some ⟨g5,0,none⟩)] b (A::ack g9 g8 g5 g4 g3 false old vb id gs gm w r u l F)
   (fun v F'=>v = .int .i64 (if r<u+xs.length then 10 else 0)∧F'=A::ack g9 g8 g5 g4 g3 false old vb id gs gm w r u l F):=by
 refine bf Tryz.func130 Z Z Z <| bt (fun w H=>(hb w (H.ent (ac 9 [] Z Z))).form) ?_
 rintro ⟨bA,bc,rfl,h1,h2,h3,h4⟩
 refine bd4 <| af Z <| bd3 <| ae <| b7 flo (A::ack g9 g8 g5 g4 g3 false old (.slice bA xs.length bc) id gs gm w r u l F) (by decide +kernel) (Ent.refl _) <| de 1 Z Z Z Z <| ay Z Zl <| ay Z Zl <| de 5 Z Z Z Z <| ay Z Zl <| ay Z Zl <| de 6 Z Z Z Z <| de 3 Z Z Z Z <| ay Z Zl <| dj Z Z (by (unfold I64;omega)) <| de 5 Z Z Z Z <| ay Z Zl <| ay Z Zl <| de 6 Z Z Z Z <| ay Z Zl <| ay Z Zl ?_
 by_cases h:r<u+xs.length
 ·refine b4 19 (.bool true) Z (congrArg Value.bool (decide_eq_true h)) <| cz Z Z Z Z (aog) (Ent.refl _) <| ay Z Zl <| az <| aa <| aj <| ai Z (.tmp Z .nil) (ac 0 [] Z Z) ?_
  exact ⟨by rw [if_pos h];rfl,rfl⟩
 ·refine b4 19 (.bool false) Z (congrArg Value.bool (decide_eq_false h)) <| cz Z Z Z Z (ag5) (Ent.refl _) <| ay Z Zl <| az <| aa <| aj <| ai Z (.tmp Z .nil) (ac 0 [] Z Z) ?_
  exact ⟨by rw [if_neg h];rfl,rfl⟩
end

theorem awq {a:List Int} {l:List Kp} (e:Kp) (he:e.id=a) (h:kw a l=none):yx a (.pointer (some ⟨e.g,0,none⟩)) (kM l)=kM (l ++ [e]):=by
 induction l with
 | nil => subst he; rfl
 | cons x l ih =>
  simp only [kw] at h
  split at h
  ·cases h
  ·rename_i hx
   simp only [kM,yx,if_neg hx,List.cons_append,ih h]
theorem a63 (l:List Kp) (e:Kp):(kF (l ++ [e])).Perm (kP e++kF l):=by
 have:kF (l ++ [e])=kF l++kP e:=by
  induction l with
  | nil => simp [kF]
  | cons x l ih => simp only [List.cons_append, kF, ih, List.append_assoc]
 rw [this];exact List.perm_append_comm
section
variable {b:World} {F:List SP} {gs gm:Nat} {w r u:Int} {l:List Kp} {vb:Value} {id xs:List Int}
def kv:Nat→Int
 | 0 => 0
 | 1 => 1
 | 2 => 2
 | 3 => 3
 | _ => 4
def acl (id xs:List Int) (w r u:Int):Int:=if 4096<xs.length then 4 else if ot (nx xs) w=id then (if r<u+xs.length then 10 else 0) else 8
set_option maxHeartbeats 2000000 in
theorem azi (hb:∀ w,Sat b F w→VL (Value.int .u8) w vb xs) (hlen:xs.length≤1000000) (hid:idOk id) (h:kw id l=none) (hu:0≤u∧u≤67108864) :
  SC Tryz.prog qo [.pointer (some ⟨gs,0,none⟩),idV id,vb] b (stB gs gm w r u l F)
   (fun v F'=>if acl id xs w r u=0 then v = .tuple ⟨[.bool true,.int .i64 0]⟩∧∃ g v1,F'=stB gs gm w r (u+xs.length) (l ++ [⟨id,xs,g,v1⟩]) F else v = .tuple ⟨[.bool false,.int .i64 (acl id xs w r u)]⟩∧F'=stB gs gm w r u l F):=by
 refine bf Tryz.func70 Z Z Z <| bt (fun w H=>(hb w (H.ent (ac 3 [] Z Z))).form) ?_
 rintro ⟨bA,bc,rfl,f1,f2,f3,f4⟩
 refine bd4 <| cq Z Z Z Z Z fun g3=>cq Z Z Z Z Z fun g4=>cq Z Z Z Z Z fun g5=>bgi Z Z <| bd3 <| ae <| bd4 <| df 2 Z Z Z <| bh Z Z Z ((aj7 (F:=pt g5 tr [.slice bA xs.length bc]::pt g4 t_api_ID (u8s id)::pt g3 fb [.pointer (some ⟨gs,0,none⟩)]::F)).at (ac 6 [3,4,5,0,1,2] Z Z) (ac 6 [3,4,5,0,1,2] Z Z)) <| bd3 <| al Z <| ao <| aa <| ae ?_
 refine abm 11 [8] (fl:=flo) [] [(3,.pointer (some ⟨g3,0,none⟩)),(4,.pointer (some ⟨g4,0,none⟩)),(5,.pointer (some ⟨g5,0,none⟩))] ⟨rfl,rfl,rfl,trivial⟩ Z (by kernel_rfl) (by kernel_rfl) (by decide) ?_
 refine aji 2 Z Z Z Z (fun _=>rfl) Z Z <| ale (fun _=>rfl) <| ale (fun _=>rfl) <| aji 3 Z Z Z Z (fun _=>rfl) Z Z <| ayi 1 Z Z Z Z (fun _=>rfl) Z (ig hid.1) ?_
 refine ayj 4 a2t hid (by rw [as8,h];rfl) Z Z Z Z (fun _=>rfl) (fun _=>rfl) Z ?_
 refine ale (fun _=>rfl) <| ale (fun _=>rfl) <| ale (fun _=>rfl) <| asm Z Z Z Z <| asm Z Z Z Z <| .done Z fun gg=>⟨dw _,?_⟩
 skip
 refine ug 0 Z Z Z Z Z Z Z Z Z Z Z (dw _) <| ug 1 Z Z Z Z Z Z Z Z Z Z Z (dw _) <| az <| aa <| ae <| bd4 <| ayl (E':= [(3,.pointer (some ⟨g3,0,none⟩)),(4,.pointer (some ⟨g4,0,none⟩)),(5,.pointer (some ⟨g5,0,none⟩)),(8,.pointer (some ⟨gg 9,0,none⟩)),(9,.pointer (some ⟨gg 10,0,none⟩))]) ⟨rfl,rfl,rfl,rfl,rfl,trivial⟩ <| fq (ac 2 [1,0] Z Z:Ent _ (ack (gg 10) (gg 9) g5 g4 g3 false (.pointer none) (.slice bA xs.length bc) id gs gm w r u l F)) ?_
 generalize hg8:gg 9=g8
 generalize hg9:gg 10=g9
 refine bgj Z Z Z <| af Z ?_
 refine p5 [.func (.func f5) ⟨[]⟩ ⟨[.pointer (some ⟨g5,0,none⟩)]⟩,.func (.func ge) ⟨[]⟩ ⟨[.pointer (some ⟨g5,0,none⟩),.pointer (some ⟨g3,0,none⟩),.pointer (some ⟨g4,0,none⟩)]⟩,
  .func (.func fh) ⟨[]⟩ ⟨[.pointer (some ⟨g9,0,none⟩),.pointer (some ⟨g8,0,none⟩),.pointer (some ⟨g5,0,none⟩)]⟩,.func (.func fj) ⟨[]⟩ ⟨[.pointer (some ⟨g9,0,none⟩),.pointer (some ⟨g3,0,none⟩),.pointer (some ⟨g5,0,none⟩)]⟩] Z Z Z Z Z Z Z Z Z fun gl=> ?_
 refine bgi Z Z <| bd3 <| ar ?_
 have p1:=azg (b:=b) (F:=F) (A:=pt gl lj [.func (.func f5) ⟨[]⟩ ⟨[.pointer (some ⟨g5,0,none⟩)]⟩,.func (.func ge) ⟨[]⟩ ⟨[.pointer (some ⟨g5,0,none⟩),.pointer (some ⟨g3,0,none⟩),.pointer (some ⟨g4,0,none⟩)]⟩,
  .func (.func fh) ⟨[]⟩ ⟨[.pointer (some ⟨g9,0,none⟩),.pointer (some ⟨g8,0,none⟩),.pointer (some ⟨g5,0,none⟩)]⟩,.func (.func fj) ⟨[]⟩ ⟨[.pointer (some ⟨g9,0,none⟩),.pointer (some ⟨g3,0,none⟩),.pointer (some ⟨g5,0,none⟩)]⟩])
  (g9:=g9) (g8:=g8) (g5:=g5) (g4:=g4) (g3:=g3) (is:=false) (old:= .pointer none) (gs:=gs) (gm:=gm) (w:=w) (r:=r) (u:=u) (l:=l) (id:=id) hb hlen
 have p2:=azh (b:=b) (F:=F) (A:=pt gl lj [.func (.func f5) ⟨[]⟩ ⟨[.pointer (some ⟨g5,0,none⟩)]⟩,.func (.func ge) ⟨[]⟩ ⟨[.pointer (some ⟨g5,0,none⟩),.pointer (some ⟨g3,0,none⟩),.pointer (some ⟨g4,0,none⟩)]⟩,
  .func (.func fh) ⟨[]⟩ ⟨[.pointer (some ⟨g9,0,none⟩),.pointer (some ⟨g8,0,none⟩),.pointer (some ⟨g5,0,none⟩)]⟩,.func (.func fj) ⟨[]⟩ ⟨[.pointer (some ⟨g9,0,none⟩),.pointer (some ⟨g3,0,none⟩),.pointer (some ⟨g5,0,none⟩)]⟩])
  (g9:=g9) (g8:=g8) (g5:=g5) (g4:=g4) (g3:=g3) (is:=false) (old:= .pointer none) (gs:=gs) (gm:=gm) (w:=w) (r:=r) (u:=u) (l:=l) hb hlen hid.1
 have p4:=a62 (b:=b) (F:=F) (A:=pt gl lj [.func (.func f5) ⟨[]⟩ ⟨[.pointer (some ⟨g5,0,none⟩)]⟩,.func (.func ge) ⟨[]⟩ ⟨[.pointer (some ⟨g5,0,none⟩),.pointer (some ⟨g3,0,none⟩),.pointer (some ⟨g4,0,none⟩)]⟩,
  .func (.func fh) ⟨[]⟩ ⟨[.pointer (some ⟨g9,0,none⟩),.pointer (some ⟨g8,0,none⟩),.pointer (some ⟨g5,0,none⟩)]⟩,.func (.func fj) ⟨[]⟩ ⟨[.pointer (some ⟨g9,0,none⟩),.pointer (some ⟨g3,0,none⟩),.pointer (some ⟨g5,0,none⟩)]⟩])
  (g9:=g9) (g8:=g8) (g5:=g5) (g4:=g4) (g3:=g3) (old:= .pointer none) (gs:=gs) (gm:=gm) (w:=w) (r:=r) (u:=u) (l:=l) (id:=id) hb hlen hu
 generalize hown:ot (nx xs) w=own at p2
 have hE:acl id xs w r u=if 4096<xs.length then 4 else if own=id then (if r<u+xs.length then 10 else 0) else 8:=by rw [acl,hown]
 generalize acl id xs w r u=pe at hE ⊢
 refine b6 (S:=Nat) (fun k=> [(3,.pointer (some ⟨g3,0,none⟩)),(4,.pointer (some ⟨g4,0,none⟩)),(5,.pointer (some ⟨g5,0,none⟩)),(8,.pointer (some ⟨g8,0,none⟩)),(9,.pointer (some ⟨g9,0,none⟩)),(28,.slice (some ⟨gl,0,none⟩) 4 4),(29,.int .i64 4),(30,.int .i64 (kv k))]) (fun _=>_)
  (fun k=>k≤4∧(1≤k→¬ 4096<xs.length)∧(2≤k→own=id)∧(4≤k→¬ r<u+xs.length)) (fun k=>4 - k) 0 ⟨rfl,rfl,rfl,rfl,rfl,rfl,rfl,rfl,trivial⟩ (Ent.refl _) ⟨by omega,by omega,by omega,by omega⟩ ?_
 rintro k ⟨hk,i1,i2,i4⟩
 match k,hk with
 | 0, _ =>
  have hk0:kv 0=0:=rfl
  refine bd4 <| af Z <| bd3 <| ae <| aq Z <| ao <| aa <| ae <| ar <| bd4 <| b5 Z (by omega) <| df 0 Z Z Z <| af Z <| a8r <| af Z ?_
  by_cases h:4096<xs.length
  ·rw [if_pos h] at p1 hE
   refine bh Z Z Z (p1) <| af Z <| a8r <| bgi Z Z <| bd3 <| aq Z <| bd4 <| bgj Z Z Z <| bd3 <| aj <| ap <| ag <| da <| ap <| ag <| ai Z (.tmp Z (.tmp Z .nil)) (ac 6 [] Z Z) ?_
   rw [hE,if_neg (by decide)]
   exact ⟨rfl,rfl⟩
  ·rw [if_neg h] at p1
   refine bh Z Z Z (p1) <| af Z <| a8r <| bgi Z Z <| bd3 <| al Z <| ao <| ba <| aa <| ab <| b5 Z (by (unfold I64;omega)) <| af Z <| ad ?_
   refine bj 1 ⟨rfl,rfl,rfl,rfl,rfl,rfl,rfl,rfl,trivial⟩ (Ent.refl _) ⟨by omega,fun _=>h,by omega,by omega⟩ (by omega)
 | 1, _ =>
  have hk1:kv 1=1:=rfl
  refine bd4 <| af Z <| bd3 <| ae <| aq Z <| ao <| aa <| ae <| ar <| bd4 <| b5 Z (by omega) <| df 0 Z Z Z <| af Z <| a8r <| af Z ?_
  rw [if_neg (i1 (by omega))] at hE
  by_cases h:own=id
  ·rw [if_pos h] at p2
   refine bh Z Z Z (p2) <| af Z <| a8r <| bgi Z Z <| bd3 <| al Z <| ao <| ba <| aa <| ab <| b5 Z (by (unfold I64;omega)) <| af Z <| ad ?_
   refine bj 2 ⟨rfl,rfl,rfl,rfl,rfl,rfl,rfl,rfl,trivial⟩ (Ent.refl _) ⟨by omega,fun _=>i1 (by omega),fun _=>h,by omega⟩ (by omega)
  ·rw [if_neg h] at p2 hE
   refine bh Z Z Z (p2) <| af Z <| a8r <| bgi Z Z <| bd3 <| aq Z <| bd4 <| bgj Z Z Z <| bd3 <| aj <| ap <| ag <| da <| ap <| ag <| ai Z (.tmp Z (.tmp Z .nil)) (ac 6 [] Z Z) ?_
   rw [hE,if_neg (by decide)]
   exact ⟨rfl,rfl⟩
 | 2, _ =>
  have hk2:kv 2=2:=rfl
  refine bd4 <| af Z <| bd3 <| ae <| aq Z <| ao <| aa <| ae <| ar <| bd4 <| b5 Z (by omega) <| df 0 Z Z Z <| af Z <| a8r <| af Z <| bh Z Z Z (a6z) <| af Z <| a8r <| bgi Z Z <| bd3 <| al Z <| ao <| ba <| aa <| ab <| b5 Z (by (unfold I64;omega)) <| af Z <| ad ?_
  refine bj 3 ⟨rfl,rfl,rfl,rfl,rfl,rfl,rfl,rfl,trivial⟩ (Ent.refl _) ⟨by omega,fun _=>i1 (by omega),fun _=>i2 (by omega),by omega⟩ (by omega)
 | 3, _ =>
  have hk3:kv 3=3:=rfl
  refine bd4 <| af Z <| bd3 <| ae <| aq Z <| ao <| aa <| ae <| ar <| bd4 <| b5 Z (by omega) <| df 0 Z Z Z <| af Z <| a8r <| af Z ?_
  rw [if_neg (i1 (by omega)),if_pos (i2 (by omega))] at hE
  by_cases h:r<u+xs.length
  ·rw [if_pos h] at p4 hE
   refine bh Z Z Z (p4) <| af Z <| a8r <| bgi Z Z <| bd3 <| aq Z <| bd4 <| bgj Z Z Z <| bd3 <| aj <| ap <| ag <| da <| ap <| ag <| ai Z (.tmp Z (.tmp Z .nil)) (ac 6 [] Z Z) ?_
   rw [hE,if_neg (by decide)]
   exact ⟨rfl,rfl⟩
  ·rw [if_neg h] at p4
   refine bh Z Z Z (p4) <| af Z <| a8r <| bgi Z Z <| bd3 <| al Z <| ao <| ba <| aa <| ab <| b5 Z (by (unfold I64;omega)) <| af Z <| ad ?_
   refine bj 4 ⟨rfl,rfl,rfl,rfl,rfl,rfl,rfl,rfl,trivial⟩ (Ent.refl _) ⟨by omega,fun _=>i1 (by omega),fun _=>i2 (by omega),fun _=>h⟩ (by omega)
 | 4, _ =>
  rw [if_neg (i1 (by omega)),if_pos (i2 (by omega)),if_neg (i4 (by omega))] at hE
  clear p1 p2 p4
  have hk4:kv 4=4:=rfl
  refine bd4 <| af Z <| bd3 <| ae <| al Z <| bu <| av <| ax <| au <| aa <| ae <| bd4 <| df 1 Z Z Z <| bd3 <| al Z <| ao <| aa <| ae <| b7 flo (pt g5 tr [.slice bA xs.length bc]::pt g4 t_api_ID (u8s id)::pt g3 fb [.pointer (some ⟨gs,0,none⟩)]::pt gs m9 (stC w r u gm)::F) (by decide +kernel) (ac 9 [3,4,5,6] Z Z) <| de 2 Z Z Z Z <| ay Z Zl <| ay Z Zl <| de 3 Z Z Z Z <| jm 1 Z Z Z Z Z Z (ig hid.1) Z Z <| de 0 Z Z Z Z <| dz Z Z Z Z (SC.ofMade fun w H=>aey (hb w (H.ent (ac 9 [] Z Z))) (by omega)) fun v1 F1 hF1=> ?_
  subst hF1
  refine ⟨ac 10 [4,5,6,7] Z rfl,(ie (fun w H=>(H.oat (k:=0) Z).form) ?_)⟩
  rintro ⟨A7,c7,rfl,_,_,_⟩
  refine ay Z Zl <| a55 Z Z Z Z Z Z (ac 10 [4,5,6,7] Z Z) fun gk=>anp 9 a2t hid Z Z Z Z Z Z Z Z Z (ac 11 [5,6,7,8] Z Z) <| az ?_
  rw [awq ⟨id,xs,gk,.slice A7 xs.length c7⟩ Z h]
  refine aa <| ae <| kt flo 9 (pt g5 tr [.slice bA xs.length bc]::pt g3 fb [.pointer (some ⟨gs,0,none⟩)]::pt gs m9 (stC w r u gm)::F) [] Z (by decide +kernel) (ac 11 [5,7,8] Z Z) <| de 1 Z Z Z Z <| ay Z Zl <| ay Z Zl <| de 2 Z Z Z Z <| de 0 Z Z Z Z <| ay Z Zl <| dj Z Z (by (unfold I64;omega)) <| ay Z Zl <| ay Z Zl <| az <| ku Z (dw _) <| ug 8 Z Z Z Z Z Z Z Z Z Z Z (dw _) <| az <| aa <| bd4 <| bgi Z Z <| bd3 <| aj <| ai Z (.tmp Z (.tmp Z .nil)) (((qq (l:=xs) 1 Z Z Z Z).trans (ac 11 [0,1,10,8,9] Z Z)).trans ((ql (a63 l ⟨id,xs,gk,.slice A7 xs.length c7⟩)).trans (ac 3 [1,2,0] Z Z))) ?_
  rw [if_pos hE]
  exact ⟨rfl,gk,.slice A7 xs.length c7,rfl⟩
end

section
variable {b:World} {F:List SP} {gs gm:Nat} {w r u:Int} {l:List Kp} {vb:Value} {id xs:List Int}
def ami (id xs:List Int) (e:Kp) (w:Int):Int:=if 4096<xs.length then 4 else if ot (nx xs) w=id then (if e.b=xs then 0 else 9) else 8
set_option maxHeartbeats 2000000 in
theorem azj {e:Kp} (hb:∀ w,Sat b F w→VL (Value.int .u8) w vb xs) (hlen:xs.length≤1000000) (hid:idOk id) (h:kw id l=some e) (hw:ii xs) (hew:ii e.b) :
  SC Tryz.prog qo [.pointer (some ⟨gs,0,none⟩),idV id,vb] b (stB gs gm w r u l F) (fun v F'=>v = .tuple ⟨[.bool false,.int .i64 (ami id xs e w)]⟩∧F'=stB gs gm w r u l F):=by
 refine bf Tryz.func70 Z Z Z <| bt (fun w H=>(hb w (H.ent (ac 3 [] Z Z))).form) ?_
 rintro ⟨bA,bc,rfl,f1,f2,f3,f4⟩
 refine bd4 <| cq Z Z Z Z Z fun g3=>cq Z Z Z Z Z fun g4=>cq Z Z Z Z Z fun g5=>bgi Z Z <| bd3 <| ae <| bd4 <| df 2 Z Z Z <| bh Z Z Z ((aj7 (F:=pt g5 tr [.slice bA xs.length bc]::pt g4 t_api_ID (u8s id)::pt g3 fb [.pointer (some ⟨gs,0,none⟩)]::F)).at (ac 6 [3,4,5,0,1,2] Z Z) (ac 6 [3,4,5,0,1,2] Z Z)) <| bd3 <| al Z <| ao <| aa <| ae ?_
 refine abm 11 [8] (fl:=flo) [] [(3,.pointer (some ⟨g3,0,none⟩)),(4,.pointer (some ⟨g4,0,none⟩)),(5,.pointer (some ⟨g5,0,none⟩))] ⟨rfl,rfl,rfl,trivial⟩ Z (by kernel_rfl) (by kernel_rfl) (by decide) ?_
 refine aji 2 Z Z Z Z (fun _=>rfl) Z Z <| ale (fun _=>rfl) <| ale (fun _=>rfl) <| aji 3 Z Z Z Z (fun _=>rfl) Z Z <| ayi 1 Z Z Z Z (fun _=>rfl) Z (ig hid.1) ?_
 refine ayk 4 a2t hid (by rw [as8,h];rfl) Z Z Z Z (fun _=>rfl) (fun _=>rfl) Z ?_
 refine ale (fun _=>rfl) <| ale (fun _=>rfl) <| ale (fun _=>rfl) <| asm Z Z Z Z <| asm Z Z Z Z <| .done Z fun gg=>⟨dw _,?_⟩
 skip
 refine ug 0 Z Z Z Z Z Z Z Z Z Z Z (dw _) <| ug 1 Z Z Z Z Z Z Z Z Z Z Z (dw _) <| az <| aa <| ae <| bd4 <| ayl (E':= [(3,.pointer (some ⟨g3,0,none⟩)),(4,.pointer (some ⟨g4,0,none⟩)),(5,.pointer (some ⟨g5,0,none⟩)),(8,.pointer (some ⟨gg 9,0,none⟩)),(9,.pointer (some ⟨gg 10,0,none⟩))]) ⟨rfl,rfl,rfl,rfl,rfl,trivial⟩ <| fq (ac 2 [1,0] Z Z:Ent _ (ack (gg 10) (gg 9) g5 g4 g3 true (.pointer (some ⟨e.g,0,none⟩)) (.slice bA xs.length bc) id gs gm w r u l F)) ?_
 generalize hg8:gg 9=g8
 generalize hg9:gg 10=g9
 refine bgj Z Z Z <| af Z ?_
 refine p5 [.func (.func f5) ⟨[]⟩ ⟨[.pointer (some ⟨g5,0,none⟩)]⟩,.func (.func ge) ⟨[]⟩ ⟨[.pointer (some ⟨g5,0,none⟩),.pointer (some ⟨g3,0,none⟩),.pointer (some ⟨g4,0,none⟩)]⟩,
  .func (.func fh) ⟨[]⟩ ⟨[.pointer (some ⟨g9,0,none⟩),.pointer (some ⟨g8,0,none⟩),.pointer (some ⟨g5,0,none⟩)]⟩,.func (.func fj) ⟨[]⟩ ⟨[.pointer (some ⟨g9,0,none⟩),.pointer (some ⟨g3,0,none⟩),.pointer (some ⟨g5,0,none⟩)]⟩] Z Z Z Z Z Z Z Z Z fun gl=> ?_
 refine bgi Z Z <| bd3 <| ar ?_
 have p1:=azg (b:=b) (F:=F) (A:=pt gl lj [.func (.func f5) ⟨[]⟩ ⟨[.pointer (some ⟨g5,0,none⟩)]⟩,.func (.func ge) ⟨[]⟩ ⟨[.pointer (some ⟨g5,0,none⟩),.pointer (some ⟨g3,0,none⟩),.pointer (some ⟨g4,0,none⟩)]⟩,
  .func (.func fh) ⟨[]⟩ ⟨[.pointer (some ⟨g9,0,none⟩),.pointer (some ⟨g8,0,none⟩),.pointer (some ⟨g5,0,none⟩)]⟩,.func (.func fj) ⟨[]⟩ ⟨[.pointer (some ⟨g9,0,none⟩),.pointer (some ⟨g3,0,none⟩),.pointer (some ⟨g5,0,none⟩)]⟩])
  (g9:=g9) (g8:=g8) (g5:=g5) (g4:=g4) (g3:=g3) (is:=true) (old:= .pointer (some ⟨e.g,0,none⟩)) (gs:=gs) (gm:=gm) (w:=w) (r:=r) (u:=u) (l:=l) (id:=id) hb hlen
 have p2:=azh (b:=b) (F:=F) (A:=pt gl lj [.func (.func f5) ⟨[]⟩ ⟨[.pointer (some ⟨g5,0,none⟩)]⟩,.func (.func ge) ⟨[]⟩ ⟨[.pointer (some ⟨g5,0,none⟩),.pointer (some ⟨g3,0,none⟩),.pointer (some ⟨g4,0,none⟩)]⟩,
  .func (.func fh) ⟨[]⟩ ⟨[.pointer (some ⟨g9,0,none⟩),.pointer (some ⟨g8,0,none⟩),.pointer (some ⟨g5,0,none⟩)]⟩,.func (.func fj) ⟨[]⟩ ⟨[.pointer (some ⟨g9,0,none⟩),.pointer (some ⟨g3,0,none⟩),.pointer (some ⟨g5,0,none⟩)]⟩])
  (g9:=g9) (g8:=g8) (g5:=g5) (g4:=g4) (g3:=g3) (is:=true) (old:= .pointer (some ⟨e.g,0,none⟩)) (gs:=gs) (gm:=gm) (w:=w) (r:=r) (u:=u) (l:=l) hb hlen hid.1
 have p3:=a60 (b:=b) (F:=F) (A:=pt gl lj [.func (.func f5) ⟨[]⟩ ⟨[.pointer (some ⟨g5,0,none⟩)]⟩,.func (.func ge) ⟨[]⟩ ⟨[.pointer (some ⟨g5,0,none⟩),.pointer (some ⟨g3,0,none⟩),.pointer (some ⟨g4,0,none⟩)]⟩,
  .func (.func fh) ⟨[]⟩ ⟨[.pointer (some ⟨g9,0,none⟩),.pointer (some ⟨g8,0,none⟩),.pointer (some ⟨g5,0,none⟩)]⟩,.func (.func fj) ⟨[]⟩ ⟨[.pointer (some ⟨g9,0,none⟩),.pointer (some ⟨g3,0,none⟩),.pointer (some ⟨g5,0,none⟩)]⟩])
  (g9:=g9) (g8:=g8) (g5:=g5) (g4:=g4) (g3:=g3) (gs:=gs) (gm:=gm) (w:=w) (r:=r) (u:=u) (l:=l) (id:=id) hb hlen hw h hew
 generalize hown:ot (nx xs) w=own at p2
 have hE:ami id xs e w=if 4096<xs.length then 4 else if own=id then (if e.b=xs then 0 else 9) else 8:=by rw [ami,hown]
 generalize ami id xs e w=pe at hE ⊢
 refine b6 (S:=Nat) (fun k=> [(3,.pointer (some ⟨g3,0,none⟩)),(4,.pointer (some ⟨g4,0,none⟩)),(5,.pointer (some ⟨g5,0,none⟩)),(8,.pointer (some ⟨g8,0,none⟩)),(9,.pointer (some ⟨g9,0,none⟩)),(28,.slice (some ⟨gl,0,none⟩) 4 4),(29,.int .i64 4),(30,.int .i64 (kv k))]) (fun _=>_)
  (fun k=>k≤4∧(1≤k→¬ 4096<xs.length)∧(2≤k→own=id)∧(3≤k→e.b=xs)) (fun k=>4 - k) 0 ⟨rfl,rfl,rfl,rfl,rfl,rfl,rfl,rfl,trivial⟩ (Ent.refl _) ⟨by omega,by omega,by omega,by omega⟩ ?_
 rintro k ⟨hk,i1,i2,i3⟩
 match k,hk with
 | 0, _ =>
  have hk0:kv 0=0:=rfl
  refine bd4 <| af Z <| bd3 <| ae <| aq Z <| ao <| aa <| ae <| ar <| bd4 <| b5 Z (by omega) <| df 0 Z Z Z <| af Z <| a8r <| af Z ?_
  by_cases h:4096<xs.length
  ·rw [if_pos h] at p1 hE
   refine bh Z Z Z (p1) <| af Z <| a8r <| bgi Z Z <| bd3 <| aq Z <| bd4 <| bgj Z Z Z <| bd3 <| aj <| ap <| ag <| da <| ap <| ag <| ai Z (.tmp Z (.tmp Z .nil)) (ac 6 [] Z Z) ?_
   rw [hE]
   exact ⟨rfl,rfl⟩
  ·rw [if_neg h] at p1
   refine bh Z Z Z (p1) <| af Z <| a8r <| bgi Z Z <| bd3 <| al Z <| ao <| ba <| aa <| ab <| b5 Z (by (unfold I64;omega)) <| af Z <| ad ?_
   refine bj 1 ⟨rfl,rfl,rfl,rfl,rfl,rfl,rfl,rfl,trivial⟩ (Ent.refl _) ⟨by omega,fun _=>h,by omega,by omega⟩ (by omega)
 | 1, _ =>
  have hk1:kv 1=1:=rfl
  refine bd4 <| af Z <| bd3 <| ae <| aq Z <| ao <| aa <| ae <| ar <| bd4 <| b5 Z (by omega) <| df 0 Z Z Z <| af Z <| a8r <| af Z ?_
  rw [if_neg (i1 (by omega))] at hE
  by_cases h:own=id
  ·rw [if_pos h] at p2
   refine bh Z Z Z (p2) <| af Z <| a8r <| bgi Z Z <| bd3 <| al Z <| ao <| ba <| aa <| ab <| b5 Z (by (unfold I64;omega)) <| af Z <| ad ?_
   refine bj 2 ⟨rfl,rfl,rfl,rfl,rfl,rfl,rfl,rfl,trivial⟩ (Ent.refl _) ⟨by omega,fun _=>i1 (by omega),fun _=>h,by omega⟩ (by omega)
  ·rw [if_neg h] at p2 hE
   refine bh Z Z Z (p2) <| af Z <| a8r <| bgi Z Z <| bd3 <| aq Z <| bd4 <| bgj Z Z Z <| bd3 <| aj <| ap <| ag <| da <| ap <| ag <| ai Z (.tmp Z (.tmp Z .nil)) (ac 6 [] Z Z) ?_
   rw [hE]
   exact ⟨rfl,rfl⟩
 | 2, _ =>
  have hk2:kv 2=2:=rfl
  refine bd4 <| af Z <| bd3 <| ae <| aq Z <| ao <| aa <| ae <| ar <| bd4 <| b5 Z (by omega) <| df 0 Z Z Z <| af Z <| a8r <| af Z ?_
  rw [if_neg (i1 (by omega)),if_pos (i2 (by omega))] at hE
  by_cases h:e.b=xs
  ·rw [if_pos h] at p3
   refine bh Z Z Z (p3) <| af Z <| a8r <| bgi Z Z <| bd3 <| al Z <| ao <| ba <| aa <| ab <| b5 Z (by (unfold I64;omega)) <| af Z <| ad ?_
   refine bj 3 ⟨rfl,rfl,rfl,rfl,rfl,rfl,rfl,rfl,trivial⟩ (Ent.refl _) ⟨by omega,fun _=>i1 (by omega),fun _=>i2 (by omega),fun _=>h⟩ (by omega)
  ·rw [if_neg h] at p3 hE
   refine bh Z Z Z (p3) <| af Z <| a8r <| bgi Z Z <| bd3 <| aq Z <| bd4 <| bgj Z Z Z <| bd3 <| aj <| ap <| ag <| da <| ap <| ag <| ai Z (.tmp Z (.tmp Z .nil)) (ac 6 [] Z Z) ?_
   rw [hE]
   exact ⟨rfl,rfl⟩
 | 3, _ =>
  have hk3:kv 3=3:=rfl
  refine bd4 <| af Z <| bd3 <| ae <| aq Z <| ao <| aa <| ae <| ar <| bd4 <| b5 Z (by omega) <| df 0 Z Z Z <| af Z <| a8r <| af Z <| bh Z Z Z (a61) <| af Z <| a8r <| bgi Z Z <| bd3 <| al Z <| ao <| ba <| aa <| ab <| b5 Z (by (unfold I64;omega)) <| af Z <| ad ?_
  refine bj 4 ⟨rfl,rfl,rfl,rfl,rfl,rfl,rfl,rfl,trivial⟩ (Ent.refl _) ⟨by omega,fun _=>i1 (by omega),fun _=>i2 (by omega),fun _=>i3 (by omega)⟩ (by omega)
 | 4, _ =>
  rw [if_neg (i1 (by omega)),if_pos (i2 (by omega)),if_pos (i3 (by omega))] at hE
  clear p1 p2 p3
  have hk4:kv 4=4:=rfl
  refine bd4 <| af Z <| bd3 <| ae <| al Z <| bu <| av <| ax <| au <| aa <| ae <| bd4 <| df 1 Z Z Z <| bd3 <| aq Z <| bd4 <| bgi Z Z <| bd3 <| aj <| ag <| ai Z (.tmp Z (.tmp Z .nil)) (ac 6 [] Z Z) ?_
  rw [hE]
  exact ⟨rfl,rfl⟩
end

def et:List (List Int)→List Value
 | [] => []
 | a :: l => u8s a ++ et l
def fw (l:List (List Int)):Prop:=∀ a∈l,a.length=32
theorem afq {l:List (List Int)} (h:fw l):(et l).length=l.length*32:=by
 induction l with
 | nil => rfl
 | cons a l ih => simp only [et, List.length_append, bg, h a (by simp), ih (fun x hx => h x (by simp [hx])), List.length_cons]; omega
theorem acm {l:List (List Int)} (h:fw l) {i:Nat} (hi:i<l.length):((et l).drop (i*32)).take 32=u8s (l.getD i []):=by
 induction l generalizing i with
 | nil => simp at hi
 | cons a l ih =>
  have ha:=h a (by simp)
  have hl:fw l:=fun x hx=>h x (by simp [hx])
  cases i with
  | zero =>
   simp only [et,Nat.zero_mul,List.drop_zero,List.getD_cons_zero]
   rw [List.take_append_of_le_length (by rw [bg,ha];omega),List.take_of_length_le (by rw [bg,ha];omega)]
  | succ i =>
   simp only [et,List.getD_cons_succ]
   rw [show (i+1)*32=(u8s a).length+i*32 by rw [bg,ha];omega,List.drop_append,List.drop_of_length_le (by omega),List.nil_append]
   rw [show (u8s a).length+i*32 - (u8s a).length=i*32 by omega]
   exact ih hl (by simpa using hi)
abbrev rI (A:Option Addr) (c:Nat) (l:List (List Int)):SP:=row t_api_ID 32 (.slice A l.length c) l.length (et l)
section
variable {b:World} {F:List SP} {A:Option Addr} {c:Nat} {l:List (List Int)}
theorem a64:SC Tryz.prog n_blob_digests_Len [.slice A l.length c] b F (fun v F'=>v = .int .i64 l.length∧F'=F):=by
 refine bf Tryz.func112 Z Z Z <| bd4 <| af Z <| a8r <| bgj Z Z Z <| bd3 <| aj <| ai Z (.tmp Z .nil) (ac 0 [] Z Z) ?_
 exact ⟨rfl,rfl⟩
theorem afr {i j:Nat} (hl:fw l) (hi:i<l.length) (hj:j<l.length) :
  SC Tryz.prog n_blob_digests_Less [.slice A l.length c,.int .i64 i,.int .i64 j] b (rI A c l::F) (fun v F'=>v = .bool (decide (jd (l.getD i []) (l.getD j [])<0))∧F'=rI A c l::F):=by
 have hxi:(l.getD i []).length=32:=by rw [List.getD_eq_getElem?_getD,List.getElem?_eq_getElem hi];exact hl _ (List.getElem_mem hi)
 have hxj:(l.getD j []).length=32:=by rw [List.getD_eq_getElem?_getD,List.getElem?_eq_getElem hj];exact hl _ (List.getElem_mem hj)
 have si:=acm hl hi
 have sj:=acm hl hj
 generalize l.getD i []=x at *
 generalize l.getD j []=y at *
 refine bf Tryz.func239 Z Z Z <| bt (fun w H=>(H.oat (k:=0) Z).form) ?_
 rintro ⟨A',c',hv,k1,k2,k3⟩
 cases hv
 obtain ⟨gg,oo,rfl⟩:=k3 (by omega)
 refine bd4 <| af Z <| bd3 <| ae <| b7 flo (rI (some ⟨gg,oo,none⟩) c l::F) (by decide +kernel) (Ent.refl _) <| ay Z Zl <| ay Z Zl <| dj Z Z (by omega) ?_
 refine ri 0 (i*32) Z Z Z Z Z Z Z Z (by rw [bi,Int.toNat_natCast]) (by omega) si (by rw [bg,hxi];rfl) ?_
 refine ay Z Zl <| ay Z Zl <| dj Z Z (by omega) ?_
 refine ri 0 (j*32) Z Z Z Z Z Z Z Z (by rw [bi,Int.toNat_natCast]) (by omega) sj (by rw [bg,hxj];rfl) ?_
 skip
 refine cz Z Z Z Z (zg hxi hxj) (Ent.refl _) <| ay Z Zl <| ay Z Zl <| az <| aa <| aj <| ai Z (.tmp Z .nil) (ac 0 [] Z Z) ?_
 exact ⟨rfl,rfl⟩
theorem aj8 {l:List (List Int)} (h:fw l) {i:Nat} {x:List Int} (hx:x.length=32) (hi:i<l.length):spl (et l) (i*32) (u8s x)=et (l.set i x):=by
 induction l generalizing i with
 | nil => simp at hi
 | cons a l ih =>
  have ha:=h a (by simp)
  have hl:fw l:=fun x hx=>h x (by simp [hx])
  cases i with
  | zero =>
   simp only [et,spl,Nat.zero_mul,List.take_zero,List.nil_append,Nat.zero_add,List.set_cons_zero]
   congr 1
   rw [bg,hx,show 32=(u8s a).length by rw [bg,ha]]
   exact List.drop_left
  | succ i =>
   have:=ih hl (i:=i) (by simpa using hi)
   simp only [spl] at this
   simp only [et,List.set_cons_succ,← this,spl]
   rw [show (i+1)*32=(u8s a).length+i*32 by rw [bg,ha];omega,List.take_append,List.take_of_length_le (by omega),List.drop_append,List.drop_of_length_le (l:=u8s a) (by omega)]
   rw [show (u8s a).length+i*32 - (u8s a).length=i*32 by omega,show (u8s a).length+i*32+(u8s x).length - (u8s a).length=i*32+(u8s x).length by omega]
   simp
def og (l:List (List Int)) (i j:Nat):List (List Int):=(l.set i (l.getD j [])).set j (l.getD i [])
theorem zi {l:List (List Int)} (h:fw l) {x:List Int} (hx:x.length=32) (i:Nat):fw (l.set i x):=fun a ha=>by
 rcases List.mem_or_eq_of_mem_set ha with h' | rfl
 ·exact h a h'
 ·exact hx
theorem zj {l:List (List Int)} (h:fw l) {i:Nat} (hi:i<l.length):(l.getD i []).length=32:=by rw [List.getD_eq_getElem?_getD,List.getElem?_eq_getElem hi];exact h _ (List.getElem_mem hi)
abbrev rN (A:Option Addr) (c n:Nat) (l:List (List Int)):SP:=row t_api_ID 32 (.slice A n c) n (et l)
set_option maxHeartbeats 2000000 in
theorem afs {i j n:Nat} (hl:fw l) (hn:l.length=n) (hi:i<n) (hj:j<n) :
  SC Tryz.prog n_blob_digests_Swap [.slice A n c,.int .i64 i,.int .i64 j] b (rN A c n l::F) (fun _ F'=>F'=rN A c n (og l i j)::F):=by
 have hxi:=zj hl (hn▸hi)
 have hxj:=zj hl (hn▸hj)
 have si:=acm hl (hn▸hi)
 have sj:=acm hl (hn▸hj)
 have hsw:og l i j=(l.set i (l.getD j [])).set j (l.getD i []):=rfl
 have l1:=aj8 hl hxj (hn▸hi)
 have l2:=aj8 (zi hl hxj i) hxi (i:=j) (by simp;omega)
 have e1:=afq hl
 have e2:=afq (zi hl hxj i)
 rw [List.length_set] at e2
 rw [hsw]
 generalize l.getD i []=x at *
 generalize l.getD j []=y at *
 have hij:i*32+32≤l.length*32∧j*32+32≤l.length*32:=by omega
 refine bf Tryz.func242 Z Z Z <| bt (fun w H=>(H.oat (k:=0) Z).form) ?_
 rintro ⟨A',c',hv,k1,k2,k3⟩
 cases hv
 obtain ⟨gg,oo,rfl⟩:=k3 (by omega)
 refine abm 13 [2,3] (fl:=flo) [] [(0,.slice (some ⟨gg,oo,none⟩) n c),(1,.int .i64 i),(2,.int .i64 j)] ⟨rfl,rfl,rfl,trivial⟩ Z (by kernel_rfl) (by kernel_rfl) (by decide) ?_
 (iterate 6 refine ale (fun _=>rfl) ?_)
 refine av9 (fun _=>rfl) (by omega) ?_
 refine apu 0 (j*32) Z Z Z Z (fun _=>rfl) Z (by rw [bi,Int.toNat_natCast]) (by omega) sj (by rw [bg,hxj];rfl) ?_
 refine ale (fun _=>rfl) <| ale (fun _=>rfl) <| av9 (fun _=>rfl) (by omega) ?_
 refine apu 0 (i*32) Z Z Z Z (fun _=>rfl) Z (by rw [bi,Int.toNat_natCast]) (by omega) si (by rw [bg,hxi];rfl) ?_
 refine av9 (fun _=>rfl) (by omega) <| .done Z fun gg=>⟨dw _,?_⟩
 refine abo 0 (i*32) Z Z Z Z Z Z Z Z Z l1 (by rw [bg,hxj];rfl) (by rw [bi,Int.toNat_natCast]) (by rw [bg,hxj];omega) (dt _) (dw _) ?_
 refine dj Z Z (by omega) ?_
 refine abo 0 (j*32) Z Z Z Z Z Z Z Z Z l2 (by rw [bg,hxi];rfl) (by rw [bi,Int.toNat_natCast]) (by rw [bg,hxi];omega) (dt _) (dw _) ?_
 refine az <| m5 Z .nil (ac 0 [] Z Z) ?_
 exact Z
end

theorem afu (l:List (List Int)) (x:List Int):et l++u8s x=et (l ++ [x]):=by
 induction l with
 | nil => simp [et]
 | cons a l ih => simp only [et, List.cons_append, List.append_assoc, ih]
section
variable {b:World} {F:List SP} {A:Option Addr} {c n gh:Nat} {l:List (List Int)} {x:List Int}
set_option maxHeartbeats 1000000 in
theorem a2y (hx:x.length=32) (hn:n≤1000000) :
  SC Tryz.prog n_p_blob_digests_Push [.pointer (some ⟨gh,0,none⟩),.iface t_api_ID (idV x)] b (pt gh db [.slice A n c]::rN A c n l::F)
   (fun _ F'=>∃ A' c',F'=pt gh db [.slice A' (n+1) c']::rN A' c' (n+1) (l ++ [x])::F):=by
 refine bf Tryz.func241 Z Z Z <| kt flo 9 (pt gh db [.slice A n c]::F) [] Z (by decide +kernel) (ac 2 [0] Z Z) <| ay Z Zl <| ay Z Zl <| ay Z Zl <| de 0 Z Z Z Z <| ay Z Zl <| a4j Z Z Z Z Z Z Z ?_
 refine n9 Z Z Z Z Z Z Z Z (by rw [bg,hx];rfl) (by decide) (ac 2 [0] Z Z) fun gl=> ?_
 refine nz 2 Z Z Z Z Z Z Z Z Z Z (m:=1) (news:=u8s x) (fun w H=>(H.blk (k:=0) Z).sl (by rw [bg,hx]) (by decide)) (dt _) (by omega) (fun _=>rfl) (fun _=>ac 3 [1] Z Z) fun v8=> ?_
 rw [afu]
 refine ie (fun w H=>(H.oat (k:=2) Z).form) ?_
 rintro ⟨A7,c7,rfl,_,_,_⟩
 refine ay Z Zl <| az <| ku Z (dw _) <| ug 1 Z Z Z Z Z Z Z Z Z Z Z (dw _) <| az <| m5 Z .nil (ac 3 [1,2] Z Z) ?_
 exact ⟨A7,c7,rfl⟩
set_option maxHeartbeats 1000000 in
theorem a65 {l0:List (List Int)} (hl:fw l0) (hx:x.length=32) :
  SC Tryz.prog n_p_blob_digests_Pop [.pointer (some ⟨gh,0,none⟩)] b (pt gh db [.slice A (l0.length+1) c]::rN A c (l0.length+1) (l0 ++ [x])::F)
   (fun v F'=>v = .iface t_api_ID (idV x)∧F'=pt gh db [.slice A l0.length c]::rN A c l0.length l0::F):=by
 have hl':fw (l0 ++ [x]):=fun a ha=>by
  rcases List.mem_append.1 ha with h | h
  ·exact hl a h
  ·simp at h;subst h;exact hx
 have sx:=acm hl' (i:=l0.length) (by simp)
 have hg:(l0 ++ [x]).getD l0.length []=x:=by simp
 rw [hg] at sx
 have hN:(((l0.length+1:Nat):Int) - 1).toNat=l0.length:=by omega
 refine bf Tryz.func240 Z Z Z <| bt (fun w H=>(H.oat (k:=1) Z).form) ?_
 rintro ⟨A',c',hv,k1,k2,k3⟩
 cases hv
 obtain ⟨gg,oo,rfl⟩:=k3 (by omega)
 refine bd4 <| af Z <| bd3 <| ae <| b7 flo (pt gh db [.slice (some ⟨gg,oo,none⟩) (l0.length+1) c]::rN (some ⟨gg,oo,none⟩) c (l0.length+1) (l0 ++ [x])::F) (by decide +kernel) (Ent.refl _) <| ay Z Zl <| ay Z Zl <| de 0 Z Z Z Z <| ay Z Zl <| ay Z Zl <| de 0 Z Z Z Z <| ay Z Zl <| dj Z Z (by (unfold I64;omega)) <| dj Z Z (by omega) ?_
 refine ri 1 (l0.length*32) Z Z Z Z Z Z Z Z (by rw [bi,hN]) (by omega) sx (by rw [bg,hx];rfl) ?_
 refine m6 Z Z Z Z Z Z (ac 0 [] Z Z) fun g3=> ?_
 refine qr 0 Z Z Z Z Z Z Z Z (by rw [bg,hx];rfl) (dt _) (by simp [hx]) (ac 1 [] Z Z) ?_
 refine az <| aa <| ae <| kt flo 11 (pt gh db [.slice (some ⟨gg,oo,none⟩) (l0.length+1) c]::F) [] Z (by decide +kernel) (ac 3 [1] Z Z) <| ay Z Zl <| ay Z Zl <| ay Z Zl <| de 0 Z Z Z Z <| ay Z Zl <| ay Z Zl <| de 0 Z Z Z Z <| ay Z Zl <| dj Z Z (by (unfold I64;omega)) <| dj Z Z (by omega) <| ay Z Zl ?_
 refine b4 23 (.slice (some ⟨gg,oo,none⟩) l0.length c) Z (by first | rfl | (rw [hN];rfl) | (simp [hN];done)) ?_
 skip
 refine az <| ku Z (dw _) <| ug 1 Z Z Z Z Z Z Z Z Z Z Z (dw _) <| az <| aa <| bd4 <| dk 0 Z Z Z Z Z Z (ig hx) Z <| bgi Z Z <| bd3 <| aj ?_
 have e1:(et (l0 ++ [x])).take (l0.length*32)=et l0:=by rw [← afu,← afq hl,List.take_left]
 refine ai Z (.tmp Z .nil) ((rh (j:=l0.length) (by omega) 2 Z Z).trans (ac 3 [1,2] Z Z)) ?_
 rw [e1]
 exact ⟨rfl,rfl⟩
end

instance : MethP Tryz.prog gy "Push" n_p_blob_digests_Push := ⟨by kernel_rfl, inferInstance⟩
instance : MethP Tryz.prog gy "Pop" n_p_blob_digests_Pop := ⟨by kernel_rfl, inferInstance⟩
instance : MethV Tryz.prog gy "Len" n_blob_digests_Len := ⟨by kernel_rfl, inferInstance⟩
instance : MethV Tryz.prog gy "Less" n_blob_digests_Less := ⟨by kernel_rfl, inferInstance⟩
instance : MethV Tryz.prog gy "Swap" n_blob_digests_Swap := ⟨by kernel_rfl, inferInstance⟩

def upM:Nat→List (List Int)→Nat→List (List Int)
 | 0, l, _ => l
 | k + 1, l, j => if j = 0 then l else if jd (l.getD j []) (l.getD ((j - 1) / 2) []) < 0 then upM k (og l ((j - 1) / 2) j) ((j - 1) / 2) else l
theorem fz (l:List (List Int)) (i j:Nat):(og l i j).length=l.length:=by simp [og]
theorem xg {l:List (List Int)} (h:fw l) {i j:Nat} (hi:i<l.length) (hj:j<l.length):fw (og l i j):=zi (zi h (zj h hj) i) (zj h hi) j
theorem azk (k:Nat):∀ l p,p<k→upM k l p=upM (p+1) l p:=by
 induction k using Nat.strongRecOn with
 | ind k ih =>
  intro l p hp
  cases k with
  | zero => omega
  | succ k =>
   simp only [upM]
   split
   ·rfl
   ·split
    ·exact (ih k (by omega) _ _ (by omega)).trans (ih p (by omega) _ _ (by omega)).symm
    ·rfl
theorem bdm (j:Nat):Int.tdiv ((j:Int) - 1) 2=(((j - 1) / 2:Nat):Int):=by
 cases j with
 | zero => rfl
 | succ j =>
  have:(((j+1:Nat):Int) - 1)=(j:Int):=by omega
  rw [this,Nat.add_sub_cancel]
  rfl
theorem ag6 {j:Nat} (h:j≤1000000):IntKind.i64.wrap (Int.tdiv ((j:Int) - 1) 2)=(((j - 1) / 2:Nat):Int):=by
 rw [bdm];exact I64.wrap (by unfold I64;omega)
section
variable {b:World} {F:List SP} {A:Option Addr} {c n gh:Nat} {l:List (List Int)}
set_option maxHeartbeats 1000000 in
theorem bga {j:Nat} (hl:fw l) (hn:l.length=n) (hj:j<n) (hm:n≤1000000) :
  SC Tryz.prog vi [.iface gy (.pointer (some ⟨gh,0,none⟩)),.int .i64 j] b (pt gh db [.slice A n c]::rN A c n l::F)
   (fun _ F'=>F'=pt gh db [.slice A n c]::rN A c n (upM (j+1) l j)::F):=by
 refine bf Tryz.func159 Z Z Z <| ar ?_
 refine b6 (S:=List (List Int) × Nat) (fun s=> [(0,.iface gy (.pointer (some ⟨gh,0,none⟩))),(1,.int .i64 s.2)]) (fun s=>pt gh db [.slice A n c]::rN A c n s.1::F)
  (fun s=>fw s.1∧s.1.length=n∧s.2<n∧upM (s.2+1) s.1 s.2=upM (j+1) l j) (fun s=>s.2) (l,j) ⟨rfl,rfl,trivial⟩ (Ent.refl _) ⟨hl,hn,hj,rfl⟩ ?_
 rintro ⟨m,i⟩ ⟨i1,i2,i3,i4⟩
 dsimp only at i1 i2 i3 i4 ⊢
 refine ar <| bd4 <| af Z <| b5 Z (by (unfold I64;omega)) <| b5 Z (by omega) <| af Z <| bd3 <| ae <| bd4 <| bgj Z Z Z <| af Z <| a9 4 (.int .i64 (((i - 1) / 2:Nat):Int)) Z (congrArg (Value.int .i64) (ag6 (by omega))) ?_
 by_cases h0:i=0
 ·refine a9 11 (.bool true) Z (by rw [ag6 (by omega)];simp [h0]) ?_
  (iterate 6 refine af Z ?_)
  refine bd3 <| aq Z <| bu <| av <| ij Z <| ax <| au ?_
  subst h0
  have e:m=upM (j+1) l j:=by rw [← i4];simp [upM]
  refine m5 Z .nil (ac 0 [] Z Z) ?_
  rw [e]
 ·refine a9 11 (.bool false) Z (by rw [ag6 (by omega)];simp;omega) ?_
  refine bgj Z Z Z ?_
  have hp:(i - 1) / 2<m.length:=by omega
  subst i2
  have hless:=afr (b:=b) (F:=pt gh db [.slice A m.length c]::F) (A:=A) (c:=c) (l:=m) (i:=i) (j:=(i - 1) / 2) i1 (by omega) hp
  refine lk 0 Z Z Z Z Z Z Z Z (hless.at (ac 2 [1,0] Z Z) (ac 2 [1,0] Z Z)) ?_
  by_cases h1:jd (m.getD i []) (m.getD ((i - 1) / 2) [])<0
  ·refine a9 15 (.bool true) Z (congrArg Value.bool (decide_eq_true h1)) <| bgi Z Z <| bd3 <| al Z <| ao <| aa <| bd4 <| bgj Z Z Z ?_
   have hswap:=afs (b:=b) (F:=pt gh db [.slice A m.length c]::F) (A:=A) (c:=c) (n:=m.length) (l:=m) (i:=(i - 1) / 2) (j:=i) i1 Z hp i3
   refine qi 0 Z Z Z Z Z Z Z Z (hswap.ent (ac 2 [1,0] Z Z)) ?_
   rintro _ _ rfl
   refine bd3 <| ab <| bgi Z Z <| ad <| ba ?_
   refine bj (og m ((i - 1) / 2) i,(i - 1) / 2) ⟨rfl,rfl,trivial⟩ (ac 2 [1,0] Z Z) ⟨xg i1 hp i3,fz _ _ _,hp,?_⟩ (by dsimp only;omega)
   rw [← i4]
   simp only [upM,if_neg h0,if_pos h1]
   exact (azk i _ _ (by omega)).symm
  ·refine a9 15 (.bool false) Z (congrArg Value.bool (decide_eq_false h1)) <| bgi Z Z <| bd3 <| aq Z <| bu <| av <| ij Z <| ax <| au ?_
   have e:m=upM (j+1) l j:=by rw [← i4];simp only [upM,if_neg h0,if_neg h1]
   refine m5 Z .nil (ac 0 [] Z Z) ?_
   rw [← e]
end
end Go.Proofs.YtdmfcnjgdicncaaGreat
