/- The types and the functions of this seat's program, as the engine asks for them: laid by a program (seatgen.py) out of the translation. Conditions: none. -/
import Derived.Test.YtdmfcnjgdicncaaGreatChecked
import Derived.Test.YtdmfcnjgdicncaaGreatR2
import Derived.KernelRfl
namespace Go.Proofs.YtdmfcnjgdicncaaGreat
open Go.Eng
abbrev an2:Value:= .string ⟨⟨[]⟩⟩
def ti1:TI:=⟨.func #[] #[] false,1,8,.nilFunc,[]⟩
def ti2:TI:=⟨.int .i64,1,8,.int .i64 0,[]⟩
def ti3:TI:=ti2
def ti4:TI:=⟨.bool,1,1,.bool false,[]⟩
def ti5:TI:=⟨.int .u8,1,1,.int .u8 0,[]⟩
def ti6:TI:=ti5
def ti7:TI:=⟨.struct #[],4,24,.agg ⟨[.int .i64 0,.int .i64 0,.bool false,.int .u8 0]⟩,[(2,0),(3,1),(4,2),(6,3)]⟩
def ti8:TI:=ti7
def ti9:TI:=⟨.string,1,16,an2,[]⟩
def bd9:TI:=ti9
def bea:TI:=ti9
def a6m:TI:=⟨.int .u64,1,8,.int .u64 0,[]⟩
def a8x:TI:=⟨.struct #[],2,24,.agg ⟨[an2,.int .u64 0]⟩,[(9,0),(12,1)]⟩
def beb:TI:=a8x
def bec:TI:=⟨.pointer 265,1,8,.pointer none,[]⟩
def bed:TI:=⟨.pointer 268,1,8,.pointer none,[]⟩
def bee:TI:=⟨.pointer 276,1,8,.pointer none,[]⟩
def a8y:TI:=⟨.struct #[],1,8,.agg ⟨[.pointer none]⟩,[(17,0)]⟩
def bef:TI:=a8y
def a2m:TI:=⟨.int .i32,1,4,.int .i32 0,[]⟩
def a8z:TI:=⟨.struct #[],2,16,.agg ⟨[.int .i64 0,.int .i64 0]⟩,[(3,0),(3,1)]⟩
def beg:TI:=a8z
def beh:TI:=⟨.slice 3,1,24,.slice none 0 0,[]⟩
def a80:TI:=⟨.array 32 5,32,32,.agg ⟨List.replicate 32 (.int .u8 0)⟩,[]⟩
def bei:TI:=a80
def a81:TI:=⟨.slice 26,1,24,.slice none 0 0,[]⟩
def a82:TI:=⟨.struct #[],39,136,.agg ⟨[.int .i64 0,.int .i64 0,.slice none 0 0,.int .i64 0,an2,an2]++List.replicate 32 (.int .u8 0) ++ [.slice none 0 0]⟩,[(23,0),(24,2),(3,3),(9,4),(9,5),(26,6),(27,38)]⟩
def bej:TI:=a82
def bek:TI:=⟨.slice 5,1,24,.slice none 0 0,[]⟩
def bem:TI:=⟨.func #[29] #[4] false,1,8,.nilFunc,[]⟩
def ben:TI:=⟨.func #[] #[4] false,1,8,.nilFunc,[]⟩
def beo:TI:=⟨.pointer 47,1,8,.pointer none,[]⟩
def bep:TI:=ti2
def ber:TI:=⟨.func #[3] #[33,34] false,1,8,.nilFunc,[]⟩
def bes:TI:=⟨.pointer 50,1,8,.pointer none,[]⟩
def bet:TI:=⟨.func #[3,3] #[37,34] false,1,8,.nilFunc,[]⟩
def beu:TI:=⟨.pointer 53,1,8,.pointer none,[]⟩
def bev:TI:=⟨.func #[33,37,64] #[40,34] false,1,8,.nilFunc,[]⟩
def a83:TI:=⟨.slice 181,1,24,.slice none 0 0,[]⟩
def bew:TI:=a83
def bex:TI:=⟨.map 23 181,1,8,.map none,[]⟩
def a84:TI:=⟨.struct #[],3,56,.agg ⟨[.slice none 0 0,.slice none 0 0,.map none]⟩,[(24,0),(44,1),(45,2)]⟩
def bey:TI:=a84
def bez:TI:=⟨.map 26 160,1,8,.map none,[]⟩
def a85:TI:=⟨.struct #[],4,32,.agg ⟨[.int .i64 0,.int .i64 0,.int .i64 0,.map none]⟩,[(3,0),(3,1),(3,2),(48,3)]⟩
def be0:TI:=a85
def be1:TI:=⟨.map 23 126,1,8,.map none,[]⟩
def a86:TI:=⟨.struct #[],3,24,.agg ⟨[.pointer none,.pointer none,.map none]⟩,[(33,0),(37,1),(51,2)]⟩
def be2:TI:=a86
def be3:TI:=⟨.slice 40,1,24,.slice none 0 0,[]⟩
def be4:TI:=⟨.func #[29,3] #[4,34] false,1,8,.nilFunc,[]⟩
def be5:TI:=⟨.func #[23,26,30] #[4,34] false,1,8,.nilFunc,[]⟩
def be6:TI:=⟨.slice 119,1,24,.slice none 0 0,[]⟩
def be7:TI:=⟨.func #[] #[58] false,1,8,.nilFunc,[]⟩
def be8:TI:=⟨.slice 23,1,24,.slice none 0 0,[]⟩
def be9:TI:=⟨.func #[] #[60] false,1,8,.nilFunc,[]⟩
def bfa:TI:=⟨.slice 29,1,24,.slice none 0 0,[]⟩
def bfb:TI:=⟨.func #[] #[62] false,1,8,.nilFunc,[]⟩
def bfc:TI:=⟨.slice 74,1,24,.slice none 0 0,[]⟩
def bfd:TI:=⟨.func #[] #[64] false,1,8,.nilFunc,[]⟩
def bfe:TI:=⟨.func #[29,3,23,26,30] #[4] false,1,8,.nilFunc,[]⟩
def bff:TI:=⟨.func #[3,3,3,89] #[40,33,37] false,1,8,.nilFunc,[]⟩
def bfg:TI:=⟨.func #[] #[29] false,1,8,.nilFunc,[]⟩
def bfh:TI:=⟨.func #[40,23,26,9,4,34] #[4] false,1,8,.nilFunc,[]⟩
def bfi:TI:=⟨.func #[30] #[26] false,1,8,.nilFunc,[]⟩
def bfj:TI:=⟨.func #[64,64] #[4] false,1,8,.nilFunc,[]⟩
def a87:TI:=⟨.struct #[],3,40,.agg ⟨[.int .i64 0,.int .i64 0,.slice none 0 0]⟩,[(23,0),(27,2)]⟩
def bfk:TI:=a87
def bfl:TI:=⟨.slice 81,1,24,.slice none 0 0,[]⟩
def bfm:TI:=⟨.func #[75] #[4] false,1,8,.nilFunc,[]⟩
def bfn:TI:=⟨.func #[3,3] #[3] false,1,8,.nilFunc,[]⟩
def bfo:TI:=⟨.func #[40,81] #[3,62,4] false,1,8,.nilFunc,[]⟩
def a88:TI:=⟨.struct #[],76,224,.agg ⟨[.int .i64 0,.int .i64 0,.int .i64 0,.slice none 0 0,.int .i64 0,an2,an2]++List.replicate 32 (.int .u8 0) ++ [.slice none 0 0,.int .i64 0,.int .i64 0,.int .i64 0]++List.replicate 32 (.int .u8 0) ++ [.slice none 0 0]⟩,[(3,0),(29,1),(3,40),(23,41),(26,43),(30,75)]⟩
def bfp:TI:=a88
def bfq:TI:=⟨.func #[24,23] #[4] false,1,8,.nilFunc,[]⟩
def bfr:TI:=⟨.func #[24,24] #[4] false,1,8,.nilFunc,[]⟩
def bfs:TI:=⟨.func #[24,23] #[24] false,1,8,.nilFunc,[]⟩
def bft:TI:=⟨.func #[26] #[30,4] false,1,8,.nilFunc,[]⟩
def bfu:TI:=⟨.func #[] #[24] false,1,8,.nilFunc,[]⟩
def bfv:TI:=⟨.func #[3,75] #[4] false,1,8,.nilFunc,[]⟩
def bfw:TI:=⟨.slice 30,1,24,.slice none 0 0,[]⟩
def bfx:TI:=⟨.func #[89,3,3] #[4] false,1,8,.nilFunc,[]⟩
def bfy:TI:=⟨.func #[62,62] #[4] false,1,8,.nilFunc,[]⟩
def bfz:TI:=⟨.func #[58,58] #[4] false,1,8,.nilFunc,[]⟩
def bf0:TI:=⟨.func #[60,60] #[4] false,1,8,.nilFunc,[]⟩
def bf1:TI:=⟨.func #[3,89,75] #[4] false,1,8,.nilFunc,[]⟩
def bf2:TI:=⟨.pointer 113,1,8,.pointer none,[]⟩
def bf3:TI:=⟨.func #[3] #[95,34] false,1,8,.nilFunc,[]⟩
def bf4:TI:=⟨.pointer 167,1,8,.pointer none,[]⟩
def a89:TI:=⟨.func #[3,3] #[98,34] false,1,8,.nilFunc,[]⟩
def a9a:TI:=⟨.pointer 169,1,8,.pointer none,[]⟩
def a9b:TI:=⟨.func #[95,98,64] #[101,34] false,1,8,.nilFunc,[]⟩
def a9c:TI:=⟨.func #[29] #[29] false,1,8,.nilFunc,[]⟩
def a9d:TI:=⟨.func #[30] #[30] false,1,8,.nilFunc,[]⟩
def a9e:TI:=⟨.func #[29,29] #[4] false,1,8,.nilFunc,[]⟩
def a9f:TI:=⟨.func #[62] #[] false,1,8,.nilFunc,[]⟩
def a9g:TI:=⟨.func #[30,30] #[4] false,1,8,.nilFunc,[]⟩
def a9h:TI:=⟨.func #[30] #[] false,1,8,.nilFunc,[]⟩
def a9i:TI:=⟨.func #[64] #[] false,1,8,.nilFunc,[]⟩
def a9j:TI:=⟨.slice 122,1,24,.slice none 0 0,[]⟩
def a4p:TI:=⟨.struct #[],2,48,.agg ⟨[.slice none 0 0,.slice none 0 0]⟩,[(24,0),(111,1)]⟩
def a9k:TI:=a4p
def a9l:TI:=⟨.func #[27,27] #[4] false,1,8,.nilFunc,[]⟩
def a9m:TI:=⟨.func #[] #[27] false,1,8,.nilFunc,[]⟩
def a9n:TI:=⟨.func #[60] #[] false,1,8,.nilFunc,[]⟩
def a9o:TI:=⟨.func #[3,3,3,75] #[4] false,1,8,.nilFunc,[]⟩
def a4q:TI:=⟨.struct #[],35,56,.agg ⟨[.int .i64 0,.int .i64 0]++List.replicate 32 (.int .u8 0) ++ [.int .i64 0]⟩,[(23,0),(26,2),(3,34)]⟩
def a9p:TI:=a4q
def a9q:TI:=⟨.func #[] #[3] false,1,8,.nilFunc,[]⟩
def a4r:TI:=⟨.struct #[],40,144,.agg ⟨[.int .i64 0,.int .i64 0,.slice none 0 0,.int .i64 0,an2,an2]++List.replicate 32 (.int .u8 0) ++ [.slice none 0 0,.int .i64 0]⟩,[(29,0),(3,39)]⟩
def a9r:TI:=a4r
def a9s:TI:=⟨.func #[23] #[122,4] false,1,8,.nilFunc,[]⟩
def a4s:TI:=⟨.struct #[],1,24,.agg ⟨[.slice none 0 0]⟩,[(27,0)]⟩
def a9t:TI:=a4s
def a9u:TI:=⟨.func #[27,26] #[4] false,1,8,.nilFunc,[]⟩
def a9v:TI:=⟨.func #[26] #[4] false,1,8,.nilFunc,[]⟩
def a9w:TI:=⟨.func #[26] #[3,4] false,1,8,.nilFunc,[]⟩
def a9x:TI:=⟨.func #[27] #[4] false,1,8,.nilFunc,[]⟩
def a9y:TI:=⟨.func #[27,129] #[4] false,1,8,.nilFunc,[]⟩
def a9z:TI:=⟨.func #[27] #[27] false,1,8,.nilFunc,[]⟩
def a90:TI:=⟨.func #[29,3,3] #[34] false,1,8,.nilFunc,[]⟩
def a91:TI:=⟨.func #[26,30] #[4,34] false,1,8,.nilFunc,[]⟩
def a92:TI:=⟨.func #[27,26,138] #[3,4] false,1,8,.nilFunc,[]⟩
def a93:TI:=⟨.func #[26,26] #[3] false,1,8,.nilFunc,[]⟩
def a94:TI:=⟨.func #[27,3,27] #[27] true,1,8,.nilFunc,[]⟩
def a95:TI:=⟨.func #[] #[111] false,1,8,.nilFunc,[]⟩
def a96:TI:=⟨.func #[60,142] #[60] false,1,8,.nilFunc,[]⟩
def a97:TI:=⟨.func #[23] #[4] false,1,8,.nilFunc,[]⟩
def a98:TI:=⟨.func #[60,142] #[3] false,1,8,.nilFunc,[]⟩
def a99:TI:=⟨.func #[23] #[29,34] false,1,8,.nilFunc,[]⟩
def baa:TI:=⟨.func #[30,3] #[26,34] false,1,8,.nilFunc,[]⟩
def bab:TI:=⟨.pointer 217,1,8,.pointer none,[]⟩
def bac:TI:=⟨.func #[] #[148] false,1,8,.nilFunc,[]⟩
def bad:TI:=⟨.func #[30] #[34] false,1,8,.nilFunc,[]⟩
def bae:TI:=⟨.func #[] #[26,34] false,1,8,.nilFunc,[]⟩
def baf:TI:=⟨.func #[4,34] #[3] false,1,8,.nilFunc,[]⟩
def bag:TI:=⟨.func #[24,3] #[3] false,1,8,.nilFunc,[]⟩
def bah:TI:=⟨.func #[156,4,158] #[4] false,1,8,.nilFunc,[]⟩
def a4t:TI:=⟨.func #[219] #[] false,1,8,.nilFunc,[]⟩
def bai:TI:=a4t
def baj:TI:=⟨.func #[24,24] #[156] false,1,8,.nilFunc,[]⟩
def bak:TI:=⟨.func #[4,3,3] #[4] false,1,8,.nilFunc,[]⟩
def bal:TI:=⟨.func #[24,24] #[24] false,1,8,.nilFunc,[]⟩
def bam:TI:=⟨.pointer 163,1,8,.pointer none,[]⟩
def a4u:TI:=⟨.struct #[],1,24,.agg ⟨[.slice none 0 0]⟩,[(30,0)]⟩
def ban:TI:=a4u
def bao:TI:=⟨.func #[24] #[24] false,1,8,.nilFunc,[]⟩
def bap:TI:=⟨.slice 180,1,24,.slice none 0 0,[]⟩
def a4v:TI:=⟨.struct #[],3,40,.agg ⟨[.int .i64 0,.int .i64 0,.slice none 0 0]⟩,[(3,0),(3,1),(165,2)]⟩
def baq:TI:=a4v
def a4w:TI:=⟨.struct #[],3,40,.agg ⟨[.pointer none,.pointer none,.slice none 0 0]⟩,[(95,0),(98,1),(64,2)]⟩
def bar:TI:=a4w
def bas:TI:=⟨.func #[23] #[27] false,1,8,.nilFunc,[]⟩
def bat:TI:=⟨.func #[24] #[] false,1,8,.nilFunc,[]⟩
def bau:TI:=⟨.func #[27] #[] false,1,8,.nilFunc,[]⟩
def bav:TI:=⟨.func #[23,26] #[] false,1,8,.nilFunc,[]⟩
def baw:TI:=⟨.pointer 175,1,8,.pointer none,[]⟩
def bax:TI:=a81
def bay:TI:=⟨.func #[226,20] #[] false,1,8,.nilFunc,[]⟩
def baz:TI:=⟨.func #[27,3] #[27] false,1,8,.nilFunc,[]⟩
def ba0:TI:=⟨.func #[226] #[20] false,1,8,.nilFunc,[]⟩
def a4x:TI:=⟨.struct #[],33,56,.agg ⟨List.replicate 32 (.int .u8 0) ++ [.slice none 0 0]⟩,[(26,0),(30,32)]⟩
def ba1:TI:=a4x
def ba2:TI:=⟨.pointer 122,1,8,.pointer none,[]⟩
def ba3:TI:=⟨.func #[122] #[122] false,1,8,.nilFunc,[]⟩
def ba4:TI:=⟨.func #[27,26] #[3] false,1,8,.nilFunc,[]⟩
def ba5:TI:=⟨.func #[27,138] #[4] false,1,8,.nilFunc,[]⟩
def ba6:TI:=⟨.func #[27,129] #[3] false,1,8,.nilFunc,[]⟩
def ba7:TI:=⟨.func #[29,3] #[4] false,1,8,.nilFunc,[]⟩
def a4y:TI:=⟨.struct #[],2,16,.agg ⟨[.int .i64 0,.int .i64 0]⟩,[(34,0),(3,1)]⟩
def ba8:TI:=a4y
def ba9:TI:=⟨.func #[9] #[189] false,1,8,.nilFunc,[]⟩
def bba:TI:=⟨.func #[9] #[34] false,1,8,.nilFunc,[]⟩
def bbb:TI:=⟨.func #[26,3] #[34] false,1,8,.nilFunc,[]⟩
def a4z:TI:=⟨.struct #[],3,24,.agg ⟨[.nilFunc,.nilFunc,.bool false]⟩,[(191,0),(192,1),(4,2)]⟩
def bbc:TI:=a4z
def bbd:TI:=⟨.array 4 194,12,96,.agg ⟨[.nilFunc,.nilFunc,.bool false,.nilFunc,.nilFunc,.bool false,.nilFunc,.nilFunc,.bool false,.nilFunc,.nilFunc,.bool false]⟩,[]⟩
def bbe:TI:=⟨.func #[] #[195] false,1,8,.nilFunc,[]⟩
def bbf:TI:=⟨.func #[29,4,3] #[34] false,1,8,.nilFunc,[]⟩
def bbg:TI:=⟨.array 3 34,3,24,.agg ⟨[.int .i64 0,.int .i64 0,.int .i64 0]⟩,[]⟩
def bbh:TI:=⟨.func #[122] #[] false,1,8,.nilFunc,[]⟩
def bbi:TI:=⟨.func #[4,34] #[34] false,1,8,.nilFunc,[]⟩
def bbj:TI:=⟨.func #[] #[34] false,1,8,.nilFunc,[]⟩
def bbk:TI:=⟨.slice 201,1,24,.slice none 0 0,[]⟩
def bbl:TI:=a6m
def bbm:TI:=⟨.func #[30,30] #[3] false,1,8,.nilFunc,[]⟩
def bbn:TI:=⟨.func #[27,3] #[] false,1,8,.nilFunc,[]⟩
def bbo:TI:=⟨.func #[] #[43] false,1,8,.nilFunc,[]⟩
def bbp:TI:=⟨.func #[181] #[4] false,1,8,.nilFunc,[]⟩
def bbq:TI:=⟨.func #[226,3] #[20] false,1,8,.nilFunc,[]⟩
def bbr:TI:=⟨.pointer 44,1,8,.pointer none,[]⟩
def bbs:TI:=⟨.func #[44,181] #[3] false,1,8,.nilFunc,[]⟩
def bbt:TI:=⟨.func #[26,3] #[26,34] false,1,8,.nilFunc,[]⟩
def bbu:TI:=⟨.int .u32,1,4,.int .u32 0,[]⟩
def a40:TI:=⟨.array 8 212,8,32,.agg ⟨List.replicate 8 (.int .u32 0)⟩,[]⟩
def bbv:TI:=a40
def bbw:TI:=⟨.func #[] #[214] false,1,8,.nilFunc,[]⟩
def a41:TI:=⟨.struct #[],11,72,.agg ⟨List.replicate 8 (.int .u32 0) ++ [.slice none 0 0,.int .i64 0,.bool false]⟩,[(214,0),(30,8),(3,9),(4,10)]⟩
def bbx:TI:=a41
def bby:TI:=a6m
def bbz:TI:=⟨.func #[3,3] #[4] false,1,8,.nilFunc,[]⟩
def bb0:TI:=⟨.func #[24,24,77] #[24] false,1,8,.nilFunc,[]⟩
def bb1:TI:=⟨.func #[23] #[3] false,1,8,.nilFunc,[]⟩
def bb2:TI:=⟨.func #[26,3] #[4] false,1,8,.nilFunc,[]⟩
def bb3:TI:=⟨.func #[29,3] #[34] false,1,8,.nilFunc,[]⟩
def bb4:TI:=⟨.func #[29,3,3] #[4] false,1,8,.nilFunc,[]⟩
def bb5:TI:=⟨.func #[20] #[] false,1,8,.nilFunc,[]⟩
def bb6:TI:=⟨.func #[226,3] #[] false,1,8,.nilFunc,[]⟩
def bb7:TI:=⟨.func #[3,3] #[] false,1,8,.nilFunc,[]⟩
def bb8:TI:=⟨.func #[226,3,3] #[4] false,1,8,.nilFunc,[]⟩
def bb9:TI:=⟨.func #[] #[20] false,1,8,.nilFunc,[]⟩
def bca:TI:=⟨.func #[24,233] #[4] false,1,8,.nilFunc,[]⟩
def bcb:TI:=⟨.func #[3] #[4] false,1,8,.nilFunc,[]⟩
def bcc:TI:=⟨.func #[9,3] #[189,4] false,1,8,.nilFunc,[]⟩
def bcd:TI:=⟨.func #[9,237,34] #[189] false,1,8,.nilFunc,[]⟩
def bce:TI:=⟨.pointer 256,1,8,.pointer none,[]⟩
def a42:TI:=⟨.struct #[],1,8,.agg ⟨[.int .i64 0]⟩,[(3,0)]⟩
def bcf:TI:=a42
def bcg:TI:=⟨.func #[] #[237] false,1,8,.nilFunc,[]⟩
def bch:TI:=⟨.func #[24,3] #[4] false,1,8,.nilFunc,[]⟩
def bci:TI:=⟨.func #[44] #[44] false,1,8,.nilFunc,[]⟩
def bcj:TI:=⟨.pointer 214,1,8,.pointer none,[]⟩
def bck:TI:=⟨.array 64 212,64,256,.agg ⟨List.replicate 64 (.int .u32 0)⟩,[]⟩
def bcl:TI:=⟨.func #[] #[244] false,1,8,.nilFunc,[]⟩
def bcm:TI:=⟨.func #[30] #[244] false,1,8,.nilFunc,[]⟩
def bcn:TI:=⟨.func #[212,3] #[212] false,1,8,.nilFunc,[]⟩
def bco:TI:=⟨.func #[156,24,249] #[24] false,1,8,.nilFunc,[]⟩
def bcp:TI:=⟨.func #[24,3,3] #[24] false,1,8,.nilFunc,[]⟩
def bcq:TI:=⟨.func #[34,3] #[189] false,1,8,.nilFunc,[]⟩
def bcr:TI:=⟨.func #[9,21] #[4] false,1,8,.nilFunc,[]⟩
def bcs:TI:=⟨.func #[21] #[4] false,1,8,.nilFunc,[]⟩
def bct:TI:=⟨.func #[24,233] #[3] false,1,8,.nilFunc,[]⟩
def bcu:TI:=⟨.func #[257] #[237] false,1,8,.nilFunc,[]⟩
def a43:TI:=⟨.struct #[],2,16,.agg ⟨[.nilFunc,.bool false]⟩,[(254,0),(4,1)]⟩
def bcv:TI:=a43
def bcw:TI:=a2m
def bcx:TI:=⟨.func #[23,24,23,24] #[4] false,1,8,.nilFunc,[]⟩
def bcy:TI:=⟨.func #[213,30] #[213] false,1,8,.nilFunc,[]⟩
def bcz:TI:=⟨.func #[261] #[237] false,1,8,.nilFunc,[]⟩
def bc0:TI:=⟨.func #[257] #[4] false,1,8,.nilFunc,[]⟩
def bc1:TI:=⟨.func #[24] #[3] false,1,8,.nilFunc,[]⟩
def bc2:TI:=⟨.func #[] #[9] false,1,8,.nilFunc,[]⟩
def a44:TI:=⟨.struct #[],4,40,.agg ⟨[.pointer none,.pointer none,.pointer none,an2]⟩,[(17,0),(17,1),(17,2),(9,3)]⟩
def bc3:TI:=a44
def bc4:TI:=⟨.array 0 16,0,0,.agg ⟨[]⟩,[]⟩
def a45:TI:=⟨.struct #[],0,0,.agg ⟨[]⟩,[(266,0)]⟩
def bc5:TI:=a45
def bc6:TI:=ti5
def bc7:TI:=ti5
def bc8:TI:=⟨.func #[280,280] #[4] false,1,8,.nilFunc,[]⟩
def bc9:TI:=⟨.pointer 5,1,8,.pointer none,[]⟩
def bda:TI:=a2m
def bdb:TI:=a2m
def a46:TI:=⟨.struct #[],11,48,.agg ⟨[.int .u64 0,.int .u64 0,.int .u32 0,.int .u8 0,.int .u8 0,.int .u8 0,.int .u8 0,.nilFunc,.pointer none,.int .i32 0,.int .i32 0]⟩,[(12,0),(12,1),(212,2),(269,3),(5,4),(5,5),(270,6),(271,7),(272,8),(273,9),(274,10)]⟩
def bdc:TI:=a46
def bdd:TI:=⟨.func #[24,24,77] #[3] false,1,8,.nilFunc,[]⟩
def bde:TI:=⟨.func #[156,3,279] #[3] false,1,8,.nilFunc,[]⟩
def bdf:TI:=⟨.func #[3,3,3] #[3] false,1,8,.nilFunc,[]⟩
def tts:List (Nat × TI):= [(1,ti1),(2,ti2),(3,ti3),(4,ti4),(5,ti5),(6,ti6),(7,ti7),(8,ti8),(9,ti9),(10,bd9),(11,bea),(12,a6m),(13,a8x),(14,beb),(15,bec),(16,bed),(17,bee),(18,a8y),(19,bef),(21,a2m),(22,a8z),(23,beg),(24,beh),(25,a80),(26,bei),(27,a81),(28,a82),(29,bej),(30,bek),(31,bem),(32,ben),(33,beo),(34,bep),(36,ber),(37,bes),(39,bet),(40,beu),(42,bev),(43,a83),(44,bew),(45,bex),(46,a84),(47,bey),(48,bez),(49,a85),(50,be0),(51,be1),(52,a86),(53,be2),(54,be3),(56,be4),(57,be5),(58,be6),(59,be7),(60,be8),(61,be9),(62,bfa),(63,bfb),(64,bfc),(65,bfd),(66,bfe),(68,bff),(69,bfg),(70,bfh),(71,bfi),(72,bfj),(73,a87),(74,bfk),(75,bfl),(76,bfm),(77,bfn),(79,bfo),(80,a88),(81,bfp),(82,bfq),(83,bfr),(84,bfs),(86,bft),(87,bfu),(88,bfv),(89,bfw),(90,bfx),(91,bfy),(92,bfz),(93,bf0),(94,bf1),(95,bf2),(97,bf3),(98,bf4),(100,a89),(101,a9a),(103,a9b),(104,a9c),(105,a9d),(106,a9e),(107,a9f),(108,a9g),(109,a9h),(110,a9i),(111,a9j),(112,a4p),(113,a9k),(114,a9l),(115,a9m),(116,a9n),(117,a9o),(118,a4q),(119,a9p),(120,a9q),(121,a4r),(122,a9r),(124,a9s),(125,a4s),(126,a9t),(128,a9u),(129,a9v),(131,a9w),(132,a9x),(133,a9y),(134,a9z),(135,a90),(136,a91),(137,a92),(138,a93),(139,a94),(140,a95),(141,a96),(142,a97),(143,a98),(145,a99),(147,baa),(148,bab),(149,bac),(150,bad),(151,bae),(152,baf),(153,bag),(154,bah),(155,a4t),(156,bai),(157,baj),(158,bak),(159,bal),(160,bam),(162,a4u),(163,ban),(164,bao),(165,bap),(166,a4v),(167,baq),(168,a4w),(169,bar),(170,bas),(171,bat),(172,bau),(173,bav),(174,baw),(175,bax),(176,bay),(177,baz),(178,ba0),(179,a4x),(180,ba1),(181,ba2),(183,ba3),(184,ba4),(185,ba5),(186,ba6),(187,ba7),(188,a4y),(189,ba8),(190,ba9),(191,bba),(192,bbb),(193,a4z),(194,bbc),(195,bbd),(196,bbe),(197,bbf),(198,bbg),(199,bbh),(200,bbi),(201,bbj),(202,bbk),(203,bbl),(204,bbm),(205,bbn),(206,bbo),(207,bbp),(208,bbq),(209,bbr),(210,bbs),(211,bbt),(212,bbu),(213,a40),(214,bbv),(215,bbw),(216,a41),(217,bbx),(218,bby),(219,bbz),(220,bb0),(221,bb1),(222,bb2),(223,bb3),(224,bb4),(227,bb5),(228,bb6),(229,bb7),(230,bb8),(231,bb9),(232,bca),(233,bcb),(235,bcc),(236,bcd),(237,bce),(238,a42),(239,bcf),(240,bcg),(241,bch),(242,bci),(243,bcj),(244,bck),(245,bcl),(246,bcm),(247,bcn),(248,bco),(249,bcp),(250,bcq),(251,bcr),(252,bcs),(253,bct),(254,bcu),(255,a43),(256,bcv),(257,bcw),(258,bcx),(259,bcy),(260,bcz),(261,bc0),(262,bc1),(263,bc2),(264,a44),(265,bc3),(266,bc4),(267,a45),(268,bc5),(269,bc6),(270,bc7),(271,bc8),(272,bc9),(273,bda),(274,bdb),(275,a46),(276,bdc),(277,bdd),(278,bde),(279,bdf)]
theorem ay1:∀ p∈tts,ar1 Tryz.prog p:=avu (by kernel_rfl)
set_option maxRecDepth 100000 in
theorem ay2:∀ p∈tts,p.2.flds≠ [(0,99999)]:=by decide
instance:TT Tryz.prog (yu tts):=TT.of_list ay1 ay2
instance:Mixed Tryz.prog:=⟨by kernel_rfl⟩
abbrev ym:Nat:=7
abbrev yy:Nat:=8
abbrev aa6:Nat:=9
abbrev ajq:Nat:=10
abbrev ajr:Nat:=11
abbrev ajs:Nat:=12
abbrev aff:Nat:=13
abbrev aen:Nat:=14
abbrev adh:Nat:=15
abbrev u9:Nat:=16
abbrev sp:Nat:=17
abbrev adi:Nat:=18
abbrev abt:Nat:=19
abbrev uj:Nat:=20
abbrev aa7:Nat:=21
abbrev amc:Nat:=22
abbrev vq:Nat:=23
abbrev abu:Nat:=24
abbrev aeo:Nat:=25
abbrev an3:Nat:=27
abbrev an4:Nat:=28
abbrev alg:Nat:=29
abbrev aep:Nat:=30
abbrev rk:Nat:=32
abbrev sq:Nat:=33
abbrev yn:Nat:=35
abbrev yz:Nat:=36
abbrev aah:Nat:=37
abbrev adj:Nat:=38
abbrev vc:Nat:=39
abbrev adk:Nat:=40
abbrev y2:Nat:=41
abbrev y3:Nat:=42
abbrev wx:Nat:=43
abbrev y4:Nat:=44
abbrev yo:Nat:=45
abbrev vr:Nat:=46
abbrev y5:Nat:=47
abbrev y6:Nat:=48
abbrev tn:Nat:=49
abbrev vt:Nat:=50
abbrev uy:Nat:=51
abbrev nr:Nat:=52
abbrev uz:Nat:=53
abbrev su:Nat:=54
abbrev wy:Nat:=55
abbrev oc:Nat:=56
abbrev aai:Nat:=57
abbrev uk:Nat:=58
abbrev o4:Nat:=59
abbrev afg:Nat:=60
abbrev qn:Nat:=61
abbrev afh:Nat:=62
abbrev vd:Nat:=63
abbrev alh:Nat:=64
abbrev kg:Nat:=65
abbrev r9:Nat:=66
abbrev wz:Nat:=67
abbrev ali:Nat:=68
abbrev aeq:Nat:=69
abbrev qo:Nat:=70
abbrev ls:Nat:=71
abbrev ad6:Nat:=72
abbrev rp:Nat:=73
abbrev ve:Nat:=74
abbrev o5:Nat:=75
abbrev vf:Nat:=76
abbrev sv:Nat:=77
abbrev vg:Nat:=78
abbrev po:Nat:=79
abbrev m7:Nat:=80
abbrev ap7:Nat:=81
abbrev amd:Nat:=82
abbrev aer:Nat:=83
abbrev agw:Nat:=84
abbrev ap8:Nat:=86
abbrev w9:Nat:=87
abbrev ajt:Nat:=88
abbrev abv:Nat:=89
abbrev ad7:Nat:=90
abbrev p6:Nat:=91
abbrev alj:Nat:=92
abbrev vh:Nat:=93
abbrev xu:Nat:=94
abbrev kh:Nat:=95
abbrev rq:Nat:=96
abbrev adl:Nat:=98
abbrev rr:Nat:=100
abbrev aa8:Nat:=101
abbrev vu:Nat:=102
abbrev aaj:Nat:=103
abbrev aa9:Nat:=104
abbrev jq:Nat:=105
abbrev tp:Nat:=106
abbrev jz:Nat:=107
abbrev u3:Nat:=108
abbrev adm:Nat:=109
abbrev sy:Nat:=110
abbrev tq:Nat:=111
abbrev n_blob_digests_Len:Nat:=112
abbrev ul:Nat:=113
abbrev asq:Nat:=114
abbrev sk:Nat:=115
abbrev o9:Nat:=116
abbrev q9:Nat:=117
abbrev lf:Nat:=118
abbrev aju:Nat:=119
abbrev ap9:Nat:=120
abbrev alk:Nat:=121
abbrev an5:Nat:=122
abbrev adn:Nat:=123
abbrev ado:Nat:=124
abbrev f5:Nat:=125
abbrev ahx:Nat:=126
abbrev ge:Nat:=127
abbrev fh:Nat:=128
abbrev alm:Nat:=129
abbrev fj:Nat:=130
abbrev aie:Nat:=131
abbrev aln:Nat:=132
abbrev aak:Nat:=134
abbrev adp:Nat:=135
abbrev y7:Nat:=136
abbrev ns:Nat:=137
abbrev awg:Nat:=138
abbrev aqa:Nat:=139
abbrev afi:Nat:=140
abbrev p7:Nat:=141
abbrev li:Nat:=142
abbrev aif:Nat:=143
abbrev aaz:Nat:=144
abbrev um:Nat:=145
abbrev y8:Nat:=146
abbrev xa:Nat:=147
abbrev aal:Nat:=148
abbrev abw:Nat:=149
abbrev adq:Nat:=150
abbrev adr:Nat:=151
abbrev abx:Nat:=152
abbrev aby:Nat:=153
abbrev ads:Nat:=154
abbrev vy:Nat:=155
abbrev xb:Nat:=156
abbrev u4:Nat:=157
abbrev aes:Nat:=158
abbrev vi:Nat:=159
abbrev s0:Nat:=160
abbrev mb:Nat:=161
abbrev agx:Nat:=162
abbrev aqb:Nat:=163
abbrev ajv:Nat:=164
abbrev agy:Nat:=165
abbrev qa:Nat:=166
abbrev mh:Nat:=167
abbrev pa:Nat:=168
abbrev aam:Nat:=169
abbrev abz:Nat:=170
abbrev awh:Nat:=171
abbrev ajw:Nat:=172
abbrev ajx:Nat:=173
abbrev nt:Nat:=175
abbrev n_hold_waiting_Len:Nat:=176
abbrev asr:Nat:=177
abbrev an6:Nat:=178
abbrev an7:Nat:=179
abbrev ab0:Nat:=180
abbrev x4:Nat:=181
abbrev ab1:Nat:=182
abbrev ab2:Nat:=183
abbrev adt:Nat:=184
abbrev adu:Nat:=185
abbrev ab3:Nat:=186
abbrev adw:Nat:=187
abbrev aan:Nat:=188
abbrev ab4:Nat:=189
abbrev adx:Nat:=190
abbrev mx:Nat:=191
abbrev y9:Nat:=192
abbrev ass:Nat:=193
abbrev pp:Nat:=194
abbrev yp:Nat:=196
abbrev ab5:Nat:=197
abbrev aba:Nat:=198
abbrev aet:Nat:=199
abbrev xc:Nat:=200
abbrev afj:Nat:=201
abbrev x5:Nat:=202
abbrev ast:Nat:=203
abbrev aao:Nat:=204
abbrev ab6:Nat:=205
abbrev ab7:Nat:=206
abbrev xe:Nat:=207
abbrev xf:Nat:=208
abbrev afk:Nat:=209
abbrev n_hold_waiting_Less:Nat:=228
abbrev n_hold_waiting_Swap:Nat:=229
abbrev an8:Nat:=230
abbrev alo:Nat:=231
abbrev aig:Nat:=232
abbrev m8:Nat:=233
abbrev rt:Nat:=234
abbrev afl:Nat:=235
abbrev x6:Nat:=236
abbrev aih:Nat:=237
abbrev n_blob_digests_Less:Nat:=239
abbrev n_p_blob_digests_Pop:Nat:=240
abbrev n_p_blob_digests_Push:Nat:=241
abbrev n_blob_digests_Swap:Nat:=242
abbrev n_p_hold_waiting_Pop:Nat:=243
abbrev n_p_hold_waiting_Push:Nat:=244
abbrev fe:Nat:=3
abbrev ab8:Nat:=4
abbrev pq:Nat:=5
abbrev t_api_Dot:Nat:=23
abbrev fk:Nat:=24
abbrev t_api_ID:Nat:=26
abbrev aqc:Nat:=27
abbrev bo:Nat:=29
abbrev tr:Nat:=30
abbrev un:Nat:=34
abbrev fb:Nat:=37
abbrev n5:Nat:=40
abbrev ajy:Nat:=44
abbrev kz:Nat:=47
abbrev m9:Nat:=50
abbrev eu:Nat:=53
abbrev ja:Nat:=74
abbrev nc:Nat:=77
abbrev jf:Nat:=81
abbrev io:Nat:=113
abbrev t_api_Want:Nat:=119
abbrev b8:Nat:=122
abbrev ru:Nat:=126
abbrev ke:Nat:=158
abbrev ad8:Nat:=160
abbrev ab9:Nat:=163
abbrev j5:Nat:=167
abbrev ic:Nat:=169
abbrev gy:Nat:=174
abbrev db:Nat:=175
abbrev pb:Nat:=180
abbrev fp:Nat:=181
abbrev t_api_Fault:Nat:=189
abbrev an9:Nat:=194
abbrev lj:Nat:=201
abbrev fy:Nat:=209
abbrev ip:Nat:=213
abbrev jy:Nat:=214
abbrev kp:Nat:=217
abbrev ajz:Nat:=237
abbrev en:Nat:=244
abbrev jn:Nat:=249
abbrev aap:Nat:=256
abbrev za:Nat:=261
abbrev lc:Nat:=279
instance:Bodied Tryz.prog 8:=ak Tryz.func8
instance:Bodied Tryz.prog 9:=ak Tryz.func9
instance:Bodied Tryz.prog 10:=ak Tryz.func10
instance:Bodied Tryz.prog 11:=ak Tryz.func11
instance:Bodied Tryz.prog 12:=ak Tryz.func12
instance:Bodied Tryz.prog 13:=ak Tryz.func13
instance:Bodied Tryz.prog 14:=ak Tryz.func14
instance:Bodied Tryz.prog 15:=ak Tryz.func15
instance:Bodied Tryz.prog 16:=ak Tryz.func16
instance:Bodied Tryz.prog 17:=ak Tryz.func17
instance:Bodied Tryz.prog 18:=ak Tryz.func18
instance:Bodied Tryz.prog 19:=ak Tryz.func19
instance:Bodied Tryz.prog 20:=ak Tryz.func20
instance:Bodied Tryz.prog 21:=ak Tryz.func21
instance:Bodied Tryz.prog 22:=ak Tryz.func22
instance:Bodied Tryz.prog 23:=ak Tryz.func23
instance:Bodied Tryz.prog 24:=ak Tryz.func24
instance:Bodied Tryz.prog 25:=ak Tryz.func25
instance:Bodied Tryz.prog 27:=ak Tryz.func27
instance:Bodied Tryz.prog 28:=ak Tryz.func28
instance:Bodied Tryz.prog 29:=ak Tryz.func29
instance:Bodied Tryz.prog 30:=ak Tryz.func30
instance:Bodied Tryz.prog 32:=ak Tryz.func32
instance:Bodied Tryz.prog 33:=ak Tryz.func33
instance:Bodied Tryz.prog 35:=ak Tryz.func35
instance:Bodied Tryz.prog 36:=ak Tryz.func36
instance:Bodied Tryz.prog 37:=ak Tryz.func37
instance:Bodied Tryz.prog 38:=ak Tryz.func38
instance:Bodied Tryz.prog 39:=ak Tryz.func39
instance:Bodied Tryz.prog 40:=ak Tryz.func40
instance:Bodied Tryz.prog 41:=ak Tryz.func41
instance:Bodied Tryz.prog 42:=ak Tryz.func42
instance:Bodied Tryz.prog 43:=ak Tryz.func43
instance:Bodied Tryz.prog 44:=ak Tryz.func44
instance:Bodied Tryz.prog 45:=ak Tryz.func45
instance:Bodied Tryz.prog 46:=ak Tryz.func46
instance:Bodied Tryz.prog 47:=ak Tryz.func47
instance:Bodied Tryz.prog 48:=ak Tryz.func48
instance:Bodied Tryz.prog 49:=ak Tryz.func49
instance:Bodied Tryz.prog 50:=ak Tryz.func50
instance:Bodied Tryz.prog 51:=ak Tryz.func51
instance:Bodied Tryz.prog 52:=ak Tryz.func52
instance:Bodied Tryz.prog 53:=ak Tryz.func53
instance:Bodied Tryz.prog 54:=ak Tryz.func54
instance:Bodied Tryz.prog 55:=ak Tryz.func55
instance:Bodied Tryz.prog 56:=ak Tryz.func56
instance:Bodied Tryz.prog 57:=ak Tryz.func57
instance:Bodied Tryz.prog 58:=ak Tryz.func58
instance:Bodied Tryz.prog 59:=ak Tryz.func59
instance:Bodied Tryz.prog 60:=ak Tryz.func60
instance:Bodied Tryz.prog 61:=ak Tryz.func61
instance:Bodied Tryz.prog 62:=ak Tryz.func62
instance:Bodied Tryz.prog 63:=ak Tryz.func63
instance:Bodied Tryz.prog 64:=ak Tryz.func64
instance:Bodied Tryz.prog 65:=ak Tryz.func65
instance:Bodied Tryz.prog 66:=ak Tryz.func66
instance:Bodied Tryz.prog 67:=ak Tryz.func67
instance:Bodied Tryz.prog 68:=ak Tryz.func68
instance:Bodied Tryz.prog 69:=ak Tryz.func69
instance:Bodied Tryz.prog 70:=ak Tryz.func70
instance:Bodied Tryz.prog 71:=ak Tryz.func71
instance:Bodied Tryz.prog 72:=ak Tryz.func72
instance:Bodied Tryz.prog 73:=ak Tryz.func73
instance:Bodied Tryz.prog 74:=ak Tryz.func74
instance:Bodied Tryz.prog 75:=ak Tryz.func75
instance:Bodied Tryz.prog 76:=ak Tryz.func76
instance:Bodied Tryz.prog 77:=ak Tryz.func77
instance:Bodied Tryz.prog 78:=ak Tryz.func78
instance:Bodied Tryz.prog 79:=ak Tryz.func79
instance:Bodied Tryz.prog 80:=ak Tryz.func80
instance:Bodied Tryz.prog 81:=ak Tryz.func81
instance:Bodied Tryz.prog 82:=ak Tryz.func82
instance:Bodied Tryz.prog 83:=ak Tryz.func83
instance:Bodied Tryz.prog 84:=ak Tryz.func84
instance:Bodied Tryz.prog 86:=ak Tryz.func86
instance:Bodied Tryz.prog 87:=ak Tryz.func87
instance:Bodied Tryz.prog 88:=ak Tryz.func88
instance:Bodied Tryz.prog 89:=ak Tryz.func89
instance:Bodied Tryz.prog 90:=ak Tryz.func90
instance:Bodied Tryz.prog 91:=ak Tryz.func91
instance:Bodied Tryz.prog 92:=ak Tryz.func92
instance:Bodied Tryz.prog 93:=ak Tryz.func93
instance:Bodied Tryz.prog 94:=ak Tryz.func94
instance:Bodied Tryz.prog 95:=ak Tryz.func95
instance:Bodied Tryz.prog 96:=ak Tryz.func96
instance:Bodied Tryz.prog 98:=ak Tryz.func98
instance:Bodied Tryz.prog 100:=ak Tryz.func100
instance:Bodied Tryz.prog 101:=ak Tryz.func101
instance:Bodied Tryz.prog 102:=ak Tryz.func102
instance:Bodied Tryz.prog 103:=ak Tryz.func103
instance:Bodied Tryz.prog 104:=ak Tryz.func104
instance:Bodied Tryz.prog 105:=ak Tryz.func105
instance:Bodied Tryz.prog 106:=ak Tryz.func106
instance:Bodied Tryz.prog 107:=ak Tryz.func107
instance:Bodied Tryz.prog 108:=ak Tryz.func108
instance:Bodied Tryz.prog 109:=ak Tryz.func109
instance:Bodied Tryz.prog 110:=ak Tryz.func110
instance:Bodied Tryz.prog 111:=ak Tryz.func111
instance:Bodied Tryz.prog 112:=ak Tryz.func112
instance:Bodied Tryz.prog 113:=ak Tryz.func113
instance:Bodied Tryz.prog 114:=ak Tryz.func114
instance:Bodied Tryz.prog 115:=ak Tryz.func115
instance:Bodied Tryz.prog 116:=ak Tryz.func116
instance:Bodied Tryz.prog 117:=ak Tryz.func117
instance:Bodied Tryz.prog 118:=ak Tryz.func118
instance:Bodied Tryz.prog 119:=ak Tryz.func119
instance:Bodied Tryz.prog 120:=ak Tryz.func120
instance:Bodied Tryz.prog 121:=ak Tryz.func121
instance:Bodied Tryz.prog 122:=ak Tryz.func122
instance:Bodied Tryz.prog 123:=ak Tryz.func123
instance:Bodied Tryz.prog 124:=ak Tryz.func124
instance:Bodied Tryz.prog 125:=ak Tryz.func125
instance:Bodied Tryz.prog 126:=ak Tryz.func126
instance:Bodied Tryz.prog 127:=ak Tryz.func127
instance:Bodied Tryz.prog 128:=ak Tryz.func128
instance:Bodied Tryz.prog 129:=ak Tryz.func129
instance:Bodied Tryz.prog 130:=ak Tryz.func130
instance:Bodied Tryz.prog 131:=ak Tryz.func131
instance:Bodied Tryz.prog 134:=ak Tryz.func134
instance:Bodied Tryz.prog 135:=ak Tryz.func135
instance:Bodied Tryz.prog 136:=ak Tryz.func136
instance:Bodied Tryz.prog 137:=ak Tryz.func137
instance:Bodied Tryz.prog 138:=ak Tryz.func138
instance:Bodied Tryz.prog 139:=ak Tryz.func139
instance:Bodied Tryz.prog 140:=ak Tryz.func140
instance:Bodied Tryz.prog 141:=ak Tryz.func141
instance:Bodied Tryz.prog 142:=ak Tryz.func142
instance:Bodied Tryz.prog 143:=ak Tryz.func143
instance:Bodied Tryz.prog 144:=ak Tryz.func144
instance:Bodied Tryz.prog 145:=ak Tryz.func145
instance:Bodied Tryz.prog 146:=ak Tryz.func146
instance:Bodied Tryz.prog 147:=ak Tryz.func147
instance:Bodied Tryz.prog 148:=ak Tryz.func148
instance:Bodied Tryz.prog 149:=ak Tryz.func149
instance:Bodied Tryz.prog 150:=ak Tryz.func150
instance:Bodied Tryz.prog 151:=ak Tryz.func151
instance:Bodied Tryz.prog 152:=ak Tryz.func152
instance:Bodied Tryz.prog 153:=ak Tryz.func153
instance:Bodied Tryz.prog 154:=ak Tryz.func154
instance:Bodied Tryz.prog 155:=ak Tryz.func155
instance:Bodied Tryz.prog 156:=ak Tryz.func156
instance:Bodied Tryz.prog 157:=ak Tryz.func157
instance:Bodied Tryz.prog 158:=ak Tryz.func158
instance:Bodied Tryz.prog 159:=ak Tryz.func159
instance:Bodied Tryz.prog 160:=ak Tryz.func160
instance:Bodied Tryz.prog 161:=ak Tryz.func161
instance:Bodied Tryz.prog 162:=ak Tryz.func162
instance:Bodied Tryz.prog 163:=ak Tryz.func163
instance:Bodied Tryz.prog 164:=ak Tryz.func164
instance:Bodied Tryz.prog 165:=ak Tryz.func165
instance:Bodied Tryz.prog 166:=ak Tryz.func166
instance:Bodied Tryz.prog 167:=ak Tryz.func167
instance:Bodied Tryz.prog 168:=ak Tryz.func168
instance:Bodied Tryz.prog 169:=ak Tryz.func169
instance:Bodied Tryz.prog 170:=ak Tryz.func170
instance:Bodied Tryz.prog 171:=ak Tryz.func171
instance:Bodied Tryz.prog 172:=ak Tryz.func172
instance:Bodied Tryz.prog 175:=ak Tryz.func175
instance:Bodied Tryz.prog 176:=ak Tryz.func176
instance:Bodied Tryz.prog 177:=ak Tryz.func177
instance:Bodied Tryz.prog 178:=ak Tryz.func178
instance:Bodied Tryz.prog 179:=ak Tryz.func179
instance:Bodied Tryz.prog 180:=ak Tryz.func180
instance:Bodied Tryz.prog 181:=ak Tryz.func181
instance:Bodied Tryz.prog 182:=ak Tryz.func182
instance:Bodied Tryz.prog 183:=ak Tryz.func183
instance:Bodied Tryz.prog 184:=ak Tryz.func184
instance:Bodied Tryz.prog 185:=ak Tryz.func185
instance:Bodied Tryz.prog 186:=ak Tryz.func186
instance:Bodied Tryz.prog 187:=ak Tryz.func187
instance:Bodied Tryz.prog 188:=ak Tryz.func188
instance:Bodied Tryz.prog 189:=ak Tryz.func189
instance:Bodied Tryz.prog 190:=ak Tryz.func190
instance:Bodied Tryz.prog 191:=ak Tryz.func191
instance:Bodied Tryz.prog 192:=ak Tryz.func192
instance:Bodied Tryz.prog 193:=ak Tryz.func193
instance:Bodied Tryz.prog 194:=ak Tryz.func194
instance:Bodied Tryz.prog 196:=ak Tryz.func196
instance:Bodied Tryz.prog 197:=ak Tryz.func197
instance:Bodied Tryz.prog 198:=ak Tryz.func198
instance:Bodied Tryz.prog 199:=ak Tryz.func199
instance:Bodied Tryz.prog 200:=ak Tryz.func200
instance:Bodied Tryz.prog 201:=ak Tryz.func201
instance:Bodied Tryz.prog 202:=ak Tryz.func202
instance:Bodied Tryz.prog 203:=ak Tryz.func203
instance:Bodied Tryz.prog 204:=ak Tryz.func204
instance:Bodied Tryz.prog 205:=ak Tryz.func205
instance:Bodied Tryz.prog 206:=ak Tryz.func206
instance:Bodied Tryz.prog 207:=ak Tryz.func207
instance:Bodied Tryz.prog 208:=ak Tryz.func208
instance:Bodied Tryz.prog 209:=ak Tryz.func209
instance:Bodied Tryz.prog 228:=ak Tryz.func228
instance:Bodied Tryz.prog 229:=ak Tryz.func229
instance:Bodied Tryz.prog 230:=ak Tryz.func230
instance:Bodied Tryz.prog 231:=ak Tryz.func231
instance:Bodied Tryz.prog 232:=ak Tryz.func232
instance:Bodied Tryz.prog 233:=ak Tryz.func233
instance:Bodied Tryz.prog 234:=ak Tryz.func234
instance:Bodied Tryz.prog 235:=ak Tryz.func235
instance:Bodied Tryz.prog 236:=ak Tryz.func236
instance:Bodied Tryz.prog 237:=ak Tryz.func237
instance:Bodied Tryz.prog 239:=ak Tryz.func239
instance:Bodied Tryz.prog 240:=ak Tryz.func240
instance:Bodied Tryz.prog 241:=ak Tryz.func241
instance:Bodied Tryz.prog 242:=ak Tryz.func242
instance:Bodied Tryz.prog 243:=ak Tryz.func243
instance:Bodied Tryz.prog 244:=ak Tryz.func244
open Go.RowKit

theorem awi {α:Type} [DecidableEq α] {xs ys:List α} {k:Nat} (h1:k<xs.length) (h2:k<ys.length) (hl:xs.length=ys.length) (ht:xs.take k=ys.take k) :
  decide (xs[k]=ys[k])=decide (xs.length=ys.length∧xs.take (k+1)=ys.take (k+1)):=by
 have e1:=List.take_succ_eq_append_getElem h1
 have e2:=List.take_succ_eq_append_getElem h2
 rw [e1,e2,ht]
 simp only [List.append_cancel_left_eq,List.cons.injEq,and_true,hl,true_and]

theorem alp {va vb:Value} {xs ys:List Int} {w:World} (ha:IL w va xs) (hb:IL w vb ys) :
  Calls Tryz.prog rk #[va,vb] w fun e w'=>e = .returned (.bool (decide (xs=ys)))∧Ext w w':=by
 obtain ⟨A,c,rfl,hnc,hcm,hz,hcell⟩:=ha.op
 obtain ⟨A',c',rfl,hnc',hcm',hz',hcell'⟩:=hb.op
 refine pz Tryz.func32 Z Z ?_
 repeat (first | refine o_p Z Z Z ?_ | refine on ?_ | refine sr ?_ | refine ss ?_)
 refine iq (vk (G:=Nat × Bool) (fun g=> [(0,.slice A xs.length c),(1,.slice A' ys.length c'),(5,.bool g.2),(6,.int .i64 (g.1:Int))])
  (fun g W=>Ext w W∧g.1≤xs.length∧g.2=decide (xs.length=ys.length∧xs.take g.1=ys.take g.1)) (fun g=>xs.length - g.1) ?_ ?_)
 ·exact ⟨(0,decide ((xs.length:Int)=ys.length)),⟨rfl,rfl,rfl,rfl,trivial⟩,Fr.refl _ _,Nat.zero_le _,by simp;omega⟩
 rintro ⟨k,b⟩ W ⟨hE,hk,hb0⟩
 dsimp only at hk hb0 ⊢
 repeat (first | refine o_p Z Z Z ?_ | refine on ?_ | refine sr ?_ | refine ss ?_)
 refine zy 13 Z (fun h1=> ?_) (fun h1=> ?_)
 ·repeat refine o_p Z Z Z ?_
  rw [h1] at hb0
  have hb1:=of_decide_eq_true hb0.symm
  refine on (qv Z (fun h2=>jg (bn (dc (iq ?_)))) (fun h2=>re (jr (j9 (jj (bn ?_))))))
  ·obtain ⟨bk,off,rfl,hbk,hc⟩:=hcell k (by omega)
   obtain ⟨bk',off',rfl,hbk',hc'⟩:=hcell' k (by omega)
   have hck:=hc k (by omega)
   have hck':=hc' k (by omega)
   refine m0 flo (fun W'=>Ext w W') (by decide) (hE.trans (Fr.drew _)) ?_
   repeat refine d_p Z Z Z Z ?_
   refine nj k Z Z Z Z Z (by omega) <| gt Z Z (fun W' hW'=>bm Z Z Z (hW'.cell hck)) Z ?_
   repeat refine d_p Z Z Z Z ?_
   refine nj k Z Z Z Z Z (by omega) <| gt Z Z (fun W' hW'=>bm Z Z Z (hW'.cell hck')) Z ?_
   repeat refine d_p Z Z Z Z ?_
   refine lu <| kq <| bn <| bx <| o_p Z Z Z ?_
   refine o_c Z Z Z (by unfold I64;omega) ?_
   repeat refine o_p Z Z Z ?_
   refine dh (p8 (k+1,decide (xs[k]=ys[k])) ?_ ?_ ?_)
   ·exact ⟨rfl,rfl,rfl,rfl,trivial⟩
   ·exact ⟨hE.trans (Fr.drew _),by simp only;omega,awi (by omega) (by omega) hb1.1 hb1.2⟩
   ·simp only;omega
  ·repeat (first | refine o_p Z Z Z ?_ | refine on ?_ | refine sr ?_ | refine ss ?_)
   refine dq <| eo Z Z ⟨?_,hE⟩
   obtain rfl:k=xs.length:=by omega
   have h3:=hb1.2
   rw [List.take_of_length_le (Nat.le_refl _),List.take_of_length_le (by omega)] at h3
   rw [h1,decide_eq_true h3]
 ·repeat refine qh Z Z ?_
  repeat refine o_p Z Z Z ?_
  refine on <| wg Z <| re <| jr <| j9 <| jj <| bn ?_
  repeat (first | refine o_p Z Z Z ?_ | refine on ?_ | refine sr ?_ | refine ss ?_)
  refine dq <| eo Z Z ⟨?_,hE⟩
  rw [h1] at hb0
  have h3:=of_decide_eq_false hb0.symm
  rw [h1,decide_eq_false (fun e=>h3 (by subst e;simp))]

theorem aqd {xs:List Int}:∀ u∈xs.map (Value.int .i64),u.oneCell'=true:=by
 intro u hu
 obtain ⟨x,_,rfl⟩:=List.mem_map.1 hu
 rfl

theorem alq {va:Value} {xs:List Int} {w:World} (ha:IL w va xs) (hlen:xs.length≤1048576) :
  Calls Tryz.prog rr #[va] w fun e w'=>∃ v,e = .returned v∧kd w' w.heap.size fe 1 v xs.length (xs.map (Value.int .i64))∧Ext w w':=by
 refine aee Tryz.func100 Z Z ?_
 repeat (first | refine o_p Z Z Z ?_ | refine on ?_ | refine sr ?_ | refine ss ?_)
 refine dr Z (jk (vs:= []) (cells:= []) Z Z Z Z (by decide) (fun z hz=>by simp at hz;subst hz;rfl)) Z ?_
 refine o_p Z Z Z ?_
 have own0:kd (w.alloc (.cells #[] fe)) w.heap.size fe 1 (.slice (some ⟨w.heap.size,0,none⟩) 0 0) 0 []:=World.ownsRow_made w #[] 0 (Nat.le_refl _) (by decide) (by rfl)
 refine agi Z Z Z Z Z Z Z Z own0 (ha.ext (Fr.alloc _ _)) aqd (by omega) (by simp) ?_
 intro v' w' own fr
 refine o_p Z Z Z ?_
 refine on (dq (eo Z Z ⟨_,rfl,by simpa using own,?_⟩))
 exact Fr.trans' (Fr.alloc _ _) fr (by intro j hj h;simp [Value.ownBlock] at h;omega)

set_option maxRecDepth 20000

def nn (xs:List Int) (i:Nat):Int:=max (xs.getD i 0) 0
def atL (xs:List Int) (r:Int):Int:=if 1≤r∧r≤xs.length then nn xs (r - 1).toNat else 0

theorem ay3 {xs:List Int} {i:Nat} (h:i<xs.length):nn xs i=max xs[i] 0:=by
 unfold nn
 rw [List.getD_eq_getElem?_getD,List.getElem?_eq_getElem h]
 rfl
theorem aoa {xs:List Int} {i:Nat} (h:xs.length≤i):nn xs i=0:=by
 unfold nn
 rw [List.getD_eq_getElem?_getD,List.getElem?_eq_none h]
 rfl
theorem aca (xs:List Int) (i:Nat):atL xs ((i:Int)+1)=nn xs i:=by
 unfold atL
 by_cases h:i<xs.length
 ·rw [if_pos (by omega)]
  congr 1
  omega
 ·rw [if_neg (by omega),aoa (by omega)]

theorem od {v:Value} {xs:List Int} {r:Int} {w:World} (hv:IL w v xs) :
  Calls Tryz.prog ap8 #[v,.int .i64 r] w fun e w'=>e = .returned (.int .i64 (atL xs r))∧w=w':=by
 obtain ⟨A,c,rfl,hnc,hcm,hz,hcell⟩:=hv.op
 refine pz Tryz.func86 Z Z <| sr <| o_p Z Z Z <| on <| dc <| sr ?_
 repeat refine o_p Z Z Z ?_
 refine a5t 7 Z (fun h1=> ?_) (fun h1=> ?_)
 ·repeat refine qh Z Z ?_
  repeat refine o_p Z Z Z ?_
  refine on <| we Z <| sr ?_
  repeat refine o_p Z Z Z ?_
  refine on <| dq <| eg <| eo Z Z ⟨?_,rfl⟩
  rw [atL,if_neg (by omega)]
 ·repeat refine o_p Z Z Z ?_
  refine on (qv Z (fun h2=>sr ?_) (fun h2=>jg (bn (sr ?_))))
  ·repeat refine o_p Z Z Z ?_
   refine on <| dq <| eg <| eo Z Z ⟨?_,rfl⟩
   rw [atL,if_neg (by omega)]
  ·obtain ⟨b,off,rfl,hb,hc⟩:=hcell 0 (by omega)
   have hlt:(r - 1).toNat<xs.length:=by omega
   have hck:=hc (r - 1).toNat hlt
   repeat refine o_p Z Z Z ?_
   refine o_c Z Z Z (by unfold I64;omega) ?_
   refine aid (r - 1).toNat Z Z Z (by omega) hlt <| dr Z (bm Z Z Z hck) Z ?_
   repeat refine o_p Z Z Z ?_
   refine on <| dq <| eo Z Z ⟨?_,rfl⟩
   rw [atL,if_pos (by omega),ay3 hlt]

theorem kf {v:Value} {xs:List Int} {r:Int} {w:World} (hv:IL w v xs) :
  Calls Tryz.prog aes #[v,.int .i64 r] w fun e w'=>e = .returned (.int .i64 (atL xs r))∧w=w':=by
 obtain ⟨A,c,rfl,hnc,hcm,hz,hcell⟩:=hv.op
 refine pz Tryz.func158 Z Z <| sr <| o_p Z Z Z <| on <| dc <| sr ?_
 repeat refine o_p Z Z Z ?_
 refine a5t 7 Z (fun h1=> ?_) (fun h1=> ?_)
 ·repeat refine qh Z Z ?_
  repeat refine o_p Z Z Z ?_
  refine on <| we Z <| sr ?_
  repeat refine o_p Z Z Z ?_
  refine on <| dq <| eg <| eo Z Z ⟨?_,rfl⟩
  rw [atL,if_neg (by omega)]
 ·repeat refine o_p Z Z Z ?_
  refine on (qv Z (fun h2=>sr ?_) (fun h2=>jg (bn (sr ?_))))
  ·repeat refine o_p Z Z Z ?_
   refine on <| dq <| eg <| eo Z Z ⟨?_,rfl⟩
   rw [atL,if_neg (by omega)]
  ·obtain ⟨b,off,rfl,hb,hc⟩:=hcell 0 (by omega)
   have hlt:(r - 1).toNat<xs.length:=by omega
   have hck:=hc (r - 1).toNat hlt
   repeat refine o_p Z Z Z ?_
   refine o_c Z Z Z (by unfold I64;omega) ?_
   refine aid (r - 1).toNat Z Z Z (by omega) hlt <| dr Z (bm Z Z Z hck) Z ?_
   repeat refine o_p Z Z Z ?_
   refine on <| dq <| eo Z Z ⟨?_,rfl⟩
   rw [atL,if_pos (by omega),ay3 hlt]

abbrev ady (b:Nat):Value:= .pointer (some ⟨b,0,none⟩)

theorem aaq {l b1 b2:Nat} {va vb:Value} {xs ys:List Int} {We W:World} (J:Nat→World→Prop) (h1:We.cell? ⟨b1,0,none⟩=some va) (h2:We.cell? ⟨b2,0,none⟩=some vb)
  (ha:IL We va xs) (hb:IL We vb ys) (hE:∀ i W,J i W→Ext We W) (hst:∀ i W W',J i W→Ext W W'→J i W')
  (hY:∀ i,i<max xs.length ys.length→∀ W,J i W→Yld Tryz.prog l #[.int .i64 (nn xs i),.int .i64 (nn ys i)] W fun e W'=>e = .returned (.bool true)∧J (i+1) W') (h0:J 0 W) :
  Calls Tryz.prog li #[.func (.yield l) #[] #[],ady b1,ady b2] W fun e W'=>(∃ v,e = .returned v)∧J (max xs.length ys.length) W':=by
 obtain ⟨A,c,rfl,hnc,hcm,hz,hcell⟩:=ha.op
 obtain ⟨A',c',rfl,hnc',hcm',hz',hcell'⟩:=hb.op
 refine ai0 Tryz.func142 Z Z <| dc <| bx <| dr Z (bm Z Z Z ((hE _ _ h0).cell h1)) Z ?_
 repeat refine o_p Z Z Z ?_
 refine dr Z (bm Z Z Z ((hE _ _ h0).cell h2)) Z ?_
 repeat refine o_p Z Z Z ?_
 have hmax:max (xs.length:Int) (ys.length:Int)=((max xs.length ys.length:Nat):Int):=by omega
 refine (dh (bn (iq (vk (G:=Nat) (fun i=> [(0,.func (.yield l) #[] #[]),(1,ady b1),(2,ady b2),(9,.int .i64 ((max xs.length ys.length:Nat):Int)),(10,.int .i64 (i:Int))])
  (fun i W=>J i W∧i≤max xs.length ys.length) (fun i=>max xs.length ys.length - i) ?_ ?_))))
 ·exact ⟨0,⟨rfl,rfl,rfl,by rw [← hmax];rfl,rfl,trivial⟩,h0,by omega⟩
 rintro i W ⟨hJ,hi⟩
 refine dc <| bx ?_
 repeat refine o_p Z Z Z ?_
 refine (dh (bn (dc (qv Z (fun h=> ?_) (fun h=> ?_)))))
 ·refine jg <| bn <| dc <| iq <| dc <| bx ?_
  repeat refine o_p Z Z Z ?_
  have hJd:=hst _ _ _ hJ (Fr.drew W)
  have hEd:=hE _ _ hJd
  refine dh <| bn <| dc <| m0 flo (fun W'=>Ext We W') (by decide) hEd ?_
  repeat refine d_p Z Z Z Z ?_
  refine gt Z Z (fun W' hW'=>bm Z Z Z (hW'.cell h1)) Z ?_
  repeat refine d_p Z Z Z Z ?_
  refine d_c Z Z Z Z (by unfold I64;omega) ?_
  refine lm Z Z (dm Z) Z <| (od (ha.ext hEd)).mono ?_
  rintro _ w1 ⟨rfl,rfl⟩;refine ⟨_,rfl,hEd,?_⟩
  rw [aca]
  refine gt Z Z (fun W' hW'=>bm Z Z Z (hW'.cell h2)) Z ?_
  repeat refine d_p Z Z Z Z ?_
  refine d_c Z Z Z Z (by unfold I64;omega) ?_
  refine lm Z Z (dm Z) Z <| (od (hb.ext hEd)).mono ?_
  rintro _ w1 ⟨rfl,rfl⟩;refine ⟨_,rfl,hEd,?_⟩
  rw [aca]
  refine axw Z Z Z Z <| (hY i (by omega) _ hJd).mono ?_
  rintro _ w1 ⟨rfl,hJ1⟩;refine ⟨_,rfl,hE _ _ hJ1,?_⟩
  repeat refine d_p Z Z Z Z ?_
  refine lu <| bn <| wg Z <| jg <| kq <| bn <| bx ?_
  refine o_c Z Z Z (by unfold I64;omega) ?_
  repeat refine o_p Z Z Z ?_
  refine (dh (p8 (i+1) ?_ ?_ ?_))
  ·exact ⟨rfl,rfl,rfl,rfl,rfl,trivial⟩
  ·exact ⟨hJ1,by omega⟩
  ·show max xs.length ys.length - (i+1)<max xs.length ys.length - i;omega
 ·obtain rfl:i=max xs.length ys.length:=by omega
  exact re (jr (j9 (jj (at7 Z ⟨⟨_,rfl⟩,hJ⟩))))

theorem aeu {va vb:Value} {w:World} :
  Calls Tryz.prog ajt #[va,vb] w fun e w'=>e = .returned (.func (.func li) ⟨[]⟩ ⟨[ady w.heap.size,ady (w.heap.size+1)]⟩)∧w'=(w.alloc (.cells va.cells fk)).alloc (.cells vb.cells fk):=by
 refine pz Tryz.func88 Z Z <| dc <| bx <| dr Z (n7 Z) Z <| dr Z (n7 Z) Z ?_
 repeat (first | refine o_p Z Z Z ?_ | refine on ?_ | refine sr ?_ | refine ss ?_)
 refine dq <| eo Z Z ⟨?_,rfl⟩
 simp

theorem aj0 {b1 b2:Nat} {va vb:Value} {xs ys:List Int} {w:World} (I:Nat→Value→World→Prop) (g:FuncId) (gc:List Value) [Bodied Tryz.prog g] (v0:Value)
  (h1:w.cell? ⟨b1,0,none⟩=some va) (h2:w.cell? ⟨b2,0,none⟩=some vb) (ha:IL w va xs) (hb:IL w vb ys) (hI0:I 0 v0 w) (hone:∀ i v W,I i v W→v.oneCell'=true)
  (hst:∀ i v W W' S,I i v W→Fr S W W'→(∀ k,S k→w.heap.size≤k∧k<w.heap.size+4)→I i v W')
  (hstep:∀ i v W,i<max xs.length ys.length→I i v W→Ext w W→w.heap.size+4≤W.heap.size→Calls Tryz.prog g ([v,.int .i64 (nn xs i),.int .i64 (nn ys i)]++gc).toArray W fun e W' =>
   ∃ v',e = .returned v'∧I (i+1) v' W'∧Fr (fun k=>w.heap.size+4≤k) W W') :
  Calls Tryz.prog w9 #[.func (.func li) ⟨[]⟩ ⟨[ady b1,ady b2]⟩,v0,.func (.func g) ⟨[]⟩ ⟨gc⟩] w fun e W'=>∃ v,e = .returned v∧I (max xs.length ys.length) v W'∧Ext w W':=by
 have c0:v0.cells = #[v0]:=by have:=hone _ _ _ hI0;cases v0 <;> first | rfl | (simp [Value.oneCell'] at this)
 refine ani Tryz.func87 Z Z <| dc <| bx <| dr Z (n7 Z) Z <| dr Z (n7 Z) Z ?_
 rw [c0]
 obtain ⟨w1,hw1⟩:∃ w1,(w.alloc (.cells #[v0] ab8)).alloc (.cells (Value.func (.func g) ⟨[]⟩ ⟨gc⟩).cells ke)=w1:=⟨_,rfl⟩
 have B0:Blk w1 w.heap.size ab8 [v0]:=by rw [← hw1];exact (Blk.new w _ [v0]).ext (Fr.alloc _ _)
 have B1:Blk w1 (w.heap.size+1) ke [.func (.func g) ⟨[]⟩ ⟨gc⟩]:=by
  rw [← hw1]
  have:=Blk.new (w.alloc (.cells #[v0] ab8)) ke [.func (.func g) ⟨[]⟩ ⟨gc⟩]
  rwa [World.size_alloc] at this
 have e1:Ext w w1:=by rw [← hw1];exact (Fr.alloc _ _).trans (Fr.alloc _ _)
 have z1:w1.heap.size=w.heap.size+2:=by rw [← hw1];simp
 have I1:I 0 v0 w1:=hst _ _ _ _ ai1 hI0 e1 (fun k h=>h.elim)
 rw [World.size_alloc,hw1]
 clear hw1
 repeat refine o_p Z Z Z ?_
 refine dh <| bn <| dc <| dc <| bx ?_
 repeat refine o_p Z Z Z ?_
 refine dh <| bn <| iq <| z5 Z ?_
 intro r hr1 hr2 hr3 hr4 hr5 hr6 hkn
 obtain ⟨w2,hw2⟩:∃ w2,(w1.alloc (.deferred (some []))).alloc (.loop r)=w2:=⟨_,rfl⟩
 have e2:Ext w1 w2:=by rw [← hw2];exact (Fr.alloc _ _).trans (Fr.alloc _ _)
 have D2:w2.heap[w.heap.size+2]? = some (.deferred (some [])):=by
  rw [← hw2,← z1];exact (Below.heap_alloc _ _ _ (by simp)).trans (World.alloc_heap_new w1 _)
 have L2:w2.heap[w.heap.size+3]? = some (.loop r):=by
  rw [← hw2];have:=World.alloc_heap_new (w1.alloc (.deferred (some []))) (.loop r);rwa [World.size_alloc,z1] at this
 have z2:w2.heap.size=w.heap.size+4:=by rw [← hw2];simp [z1]
 rw [hw2]
 rw [z1]
 let J:Nat→World→Prop:=fun i W=>∃ v,Blk W w.heap.size ab8 [v]∧Blk W (w.heap.size+1) ke [.func (.func g) ⟨[]⟩ ⟨gc⟩]∧I i v W∧W.heap[w.heap.size+2]? = some (.deferred (some [])) ∧
  W.heap[w.heap.size+3]? = some (.loop r)∧Ext w W∧w.heap.size+4≤W.heap.size
 have hJ0:J 0 w2:=⟨v0,B0.ext e2,B1.ext e2,hst _ _ _ _ ai1 I1 e2 (fun k h=>h.elim),D2,L2,e1.trans e2,by omega⟩
 refine (aaq J h1 h2 ha hb (fun i W ⟨v,_,_,_,_,_,h,_⟩=>h) ?_ ?_ hJ0).mono ?_
 ·rintro i W W' ⟨v,hb0,hb1,hI,hD,hL,hE,hz⟩ hW
  exact ⟨v,hb0.ext hW,hb1.ext hW,hst _ _ _ _ ai1 hI hW (fun k h=>h.elim),(hW.blk (by omega)).trans hD,(hW.blk (by omega)).trans hL,hE.trans hW,Nat.le_trans hz hW.size⟩
 ·rintro i hi W ⟨v,hb0,hb1,hI,hD,hL,hE,hz⟩

  refine ai3 hL (by rw [hr3];rfl) (by rw [hr3];decide) hkn ?_
  rw [hr3,hr4,hr5]
  refine dc <| bx ?_
  repeat refine o_p Z Z Z ?_
  refine dh <| bn <| bx ?_
  repeat refine o_p Z Z Z ?_
  refine dh <| ar8 hL hr1 ?_
  obtain ⟨W1,hW1⟩:∃ W1,W.putObj (w.heap.size+3) (.loop {r with state:= .busy})=W1:=⟨_,rfl⟩
  have f1:Fr (· = w.heap.size+3) W W1:=by rw [← hW1];exact Fr.putObj _ _ _
  have hL1:W1.heap[w.heap.size+3]? = some (.loop {r with state:= .busy}):=by rw [← hW1];exact World.putObj_heap_same (by omega)
  have hb0':=hb0.fr f1 (by omega)
  have hb1':=hb1.fr f1 (by omega)
  have hI':=hst _ _ _ _ _ hI f1 (fun k h=>by omega)
  have hD':=(f1.keep (w.heap.size+2) (by omega) (by omega)).trans hD
  have hE':Ext w W1:=hE.trans' f1 (fun j hj h=>by omega)
  have hz':w.heap.size+4≤W1.heap.size:=Nat.le_trans hz f1.size
  rw [hW1]
  refine iq <| bx <| dr Z (bm Z Z Z (hb1'.cell 0)) Z <| dr Z (bm Z Z Z (hb0'.cell 0)) Z ?_
  repeat refine o_p Z Z Z ?_
  refine ia Z (dm Z) Z <| (hstep i v W1 hi hI' hE' hz').mono ?_
  rintro _ W2 ⟨v',rfl,hI2,f2⟩;refine ⟨_,rfl,?_⟩
  have hb0'':=hb0'.fr f2 (by omega)
  have hb1'':=hb1'.fr f2 (by omega)
  have hD'':=(f2.keep (w.heap.size+2) (by omega) (by omega)).trans hD'
  have hL'':=(f2.keep (w.heap.size+3) (by omega) (by omega)).trans hL1
  have hE'':Ext w W2:=hE'.trans' f2 (fun j hj h=>by omega)
  have hz'':w.heap.size+4≤W2.heap.size:=Nat.le_trans hz' f2.size
  refine ad3 Z (ub Z Z Z Z (hone _ _ _ hI2) (hb0''.cell 0) (hb0''.frozen 0)) ?_
  have f3:=Fr.setCell W2 ⟨w.heap.size,0,none⟩ v'
  have hL3:=(f3.keep (w.heap.size+3) (by omega) (by simp)).trans hL''
  have hrr:({r with state:= .ready,pending:=none}:Loop)=r:=by cases r;simp_all
  have hL4:∀ r',r'=r→((W2.setCell ⟨w.heap.size,0,none⟩ v').putObj (w.heap.size+3) (.loop r')).heap[w.heap.size+3]? = some (.loop r):=fun r' e=>by
   rw [World.putObj_heap_same (by simp;omega),e]
  refine dh <| kq <| abd hL3 ⟨rfl,v',?_⟩
  have hL5:=hL4 _ hrr
  generalize hW4:(W2.setCell ⟨w.heap.size,0,none⟩ v').putObj (w.heap.size+3) _=W4 at hL5
  have f4:Fr (· = w.heap.size+3) (W2.setCell ⟨w.heap.size,0,none⟩ v') W4:=by rw [← hW4];exact Fr.putObj _ _ _
  show Blk _ _ _ _∧_
  refine ⟨?_,?_,?_,?_,?_,?_,?_⟩
  ·exact ((hb0''.set 0 v').fr f4 (by omega))
  ·exact (hb1''.fr f3 (by simp)).fr f4 (by omega)
  ·exact hst _ _ _ _ _ (hst _ _ _ _ _ hI2 f3 (fun k h=>by simp at h;omega)) f4 (fun k h=>by omega)
  ·exact (f4.keep _ (by simp;omega) (by omega)).trans ((f3.keep _ (by omega) (by simp)).trans hD'')
  ·exact hL5
  ·exact (hE''.trans' f3 (fun j hj h=>by simp at h;omega)).trans' f4 (fun j hj h=>by omega)
  ·have:=f3.size;have:=f4.size;omega
 ·rintro e W ⟨⟨u,rfl⟩,v,hb0,hb1,hI,hD,hL,hE,hz⟩
  refine ⟨⟨_,rfl⟩,r,hL,by rw [hr1];decide,?_⟩
  rw [hr2]

  dsimp only
  generalize hW4:W.putObj (w.heap.size+2+1) _=W4
  have f1:Fr (· = w.heap.size+3) W W4:=by rw [← hW4];exact Fr.putObj _ _ _
  refine kq <| bn <| dc <| bx <| dr Z (bm Z Z Z ((hb0.fr f1 (by omega)).cell 0)) Z ?_
  repeat refine o_p Z Z Z ?_
  have hD1:=(f1.keep (w.heap.size+2) (by omega) (by omega)).trans hD
  refine (dh (bn (dq (anj Z Z hD1 ⟨v,rfl,?_,?_⟩))))
  ·exact hst _ _ _ _ _ (hst _ _ _ _ _ hI f1 (fun k h=>by omega)) (Fr.putObj _ _ _) (fun k h=>by omega)
  ·exact (hE.trans' f1 (fun j hj h=>by omega)).trans' (Fr.putObj _ _ _) (fun j hj h=>by omega)

theorem alr {b1 b2:Nat} {va vb:Value} {xs ys:List Int} {w:World} (I:Nat→Value→World→Prop) (g:FuncId) (gc:List Value) [Bodied Tryz.prog g] (v0:Value)
  (h1:w.cell? ⟨b1,0,none⟩=some va) (h2:w.cell? ⟨b2,0,none⟩=some vb) (ha:IL w va xs) (hb:IL w vb ys) (hI0:I 0 v0 w) (hone:∀ i v W,I i v W→v.oneCell'=true)
  (hst:∀ i v W W' S,I i v W→Fr S W W'→(∀ k,S k→w.heap.size≤k∧k<w.heap.size+4)→I i v W')
  (hstep:∀ i v W,i<max xs.length ys.length→I i v W→Ext w W→w.heap.size+4≤W.heap.size→Calls Tryz.prog g ([v,.int .i64 (nn xs i),.int .i64 (nn ys i)]++gc).toArray W fun e W' =>
   ∃ v',e = .returned v'∧I (i+1) v' W'∧Fr (fun k=>w.heap.size+4≤k) W W') :
  Calls Tryz.prog afl #[.func (.func li) ⟨[]⟩ ⟨[ady b1,ady b2]⟩,v0,.func (.func g) ⟨[]⟩ ⟨gc⟩] w fun e W'=>∃ v,e = .returned v∧I (max xs.length ys.length) v W'∧Ext w W':=by
 have c0:v0.cells = #[v0]:=by have:=hone _ _ _ hI0;cases v0 <;> first | rfl | (simp [Value.oneCell'] at this)
 refine ani Tryz.func235 Z Z <| dc <| bx <| dr Z (n7 Z) Z <| dr Z (n7 Z) Z ?_
 rw [c0]
 obtain ⟨w1,hw1⟩:∃ w1,(w.alloc (.cells #[v0] fe)).alloc (.cells (Value.func (.func g) ⟨[]⟩ ⟨gc⟩).cells lc)=w1:=⟨_,rfl⟩
 have B0:Blk w1 w.heap.size fe [v0]:=by rw [← hw1];exact (Blk.new w _ [v0]).ext (Fr.alloc _ _)
 have B1:Blk w1 (w.heap.size+1) lc [.func (.func g) ⟨[]⟩ ⟨gc⟩]:=by
  rw [← hw1]
  have:=Blk.new (w.alloc (.cells #[v0] fe)) lc [.func (.func g) ⟨[]⟩ ⟨gc⟩]
  rwa [World.size_alloc] at this
 have e1:Ext w w1:=by rw [← hw1];exact (Fr.alloc _ _).trans (Fr.alloc _ _)
 have z1:w1.heap.size=w.heap.size+2:=by rw [← hw1];simp
 have I1:I 0 v0 w1:=hst _ _ _ _ ai1 hI0 e1 (fun k h=>h.elim)
 rw [World.size_alloc,hw1]
 clear hw1
 repeat refine o_p Z Z Z ?_
 refine dh <| bn <| dc <| dc <| bx ?_
 repeat refine o_p Z Z Z ?_
 refine dh <| bn <| iq <| z5 Z ?_
 intro r hr1 hr2 hr3 hr4 hr5 hr6 hkn
 obtain ⟨w2,hw2⟩:∃ w2,(w1.alloc (.deferred (some []))).alloc (.loop r)=w2:=⟨_,rfl⟩
 have e2:Ext w1 w2:=by rw [← hw2];exact (Fr.alloc _ _).trans (Fr.alloc _ _)
 have D2:w2.heap[w.heap.size+2]? = some (.deferred (some [])):=by
  rw [← hw2,← z1];exact (Below.heap_alloc _ _ _ (by simp)).trans (World.alloc_heap_new w1 _)
 have L2:w2.heap[w.heap.size+3]? = some (.loop r):=by
  rw [← hw2];have:=World.alloc_heap_new (w1.alloc (.deferred (some []))) (.loop r);rwa [World.size_alloc,z1] at this
 have z2:w2.heap.size=w.heap.size+4:=by rw [← hw2];simp [z1]
 rw [hw2]
 rw [z1]
 let J:Nat→World→Prop:=fun i W=>∃ v,Blk W w.heap.size fe [v]∧Blk W (w.heap.size+1) lc [.func (.func g) ⟨[]⟩ ⟨gc⟩]∧I i v W∧W.heap[w.heap.size+2]? = some (.deferred (some [])) ∧
  W.heap[w.heap.size+3]? = some (.loop r)∧Ext w W∧w.heap.size+4≤W.heap.size
 have hJ0:J 0 w2:=⟨v0,B0.ext e2,B1.ext e2,hst _ _ _ _ ai1 I1 e2 (fun k h=>h.elim),D2,L2,e1.trans e2,by omega⟩
 refine (aaq J h1 h2 ha hb (fun i W ⟨v,_,_,_,_,_,h,_⟩=>h) ?_ ?_ hJ0).mono ?_
 ·rintro i W W' ⟨v,hb0,hb1,hI,hD,hL,hE,hz⟩ hW
  exact ⟨v,hb0.ext hW,hb1.ext hW,hst _ _ _ _ ai1 hI hW (fun k h=>h.elim),(hW.blk (by omega)).trans hD,(hW.blk (by omega)).trans hL,hE.trans hW,Nat.le_trans hz hW.size⟩
 ·rintro i hi W ⟨v,hb0,hb1,hI,hD,hL,hE,hz⟩

  refine ai3 hL (by rw [hr3];rfl) (by rw [hr3];decide) hkn ?_
  rw [hr3,hr4,hr5]
  refine dc <| bx ?_
  repeat refine o_p Z Z Z ?_
  refine dh <| bn <| bx ?_
  repeat refine o_p Z Z Z ?_
  refine dh <| ar8 hL hr1 ?_
  obtain ⟨W1,hW1⟩:∃ W1,W.putObj (w.heap.size+3) (.loop {r with state:= .busy})=W1:=⟨_,rfl⟩
  have f1:Fr (· = w.heap.size+3) W W1:=by rw [← hW1];exact Fr.putObj _ _ _
  have hL1:W1.heap[w.heap.size+3]? = some (.loop {r with state:= .busy}):=by rw [← hW1];exact World.putObj_heap_same (by omega)
  have hb0':=hb0.fr f1 (by omega)
  have hb1':=hb1.fr f1 (by omega)
  have hI':=hst _ _ _ _ _ hI f1 (fun k h=>by omega)
  have hD':=(f1.keep (w.heap.size+2) (by omega) (by omega)).trans hD
  have hE':Ext w W1:=hE.trans' f1 (fun j hj h=>by omega)
  have hz':w.heap.size+4≤W1.heap.size:=Nat.le_trans hz f1.size
  rw [hW1]
  refine iq <| bx <| dr Z (bm Z Z Z (hb1'.cell 0)) Z <| dr Z (bm Z Z Z (hb0'.cell 0)) Z ?_
  repeat refine o_p Z Z Z ?_
  refine ia Z (dm Z) Z <| (hstep i v W1 hi hI' hE' hz').mono ?_
  rintro _ W2 ⟨v',rfl,hI2,f2⟩;refine ⟨_,rfl,?_⟩
  have hb0'':=hb0'.fr f2 (by omega)
  have hb1'':=hb1'.fr f2 (by omega)
  have hD'':=(f2.keep (w.heap.size+2) (by omega) (by omega)).trans hD'
  have hL'':=(f2.keep (w.heap.size+3) (by omega) (by omega)).trans hL1
  have hE'':Ext w W2:=hE'.trans' f2 (fun j hj h=>by omega)
  have hz'':w.heap.size+4≤W2.heap.size:=Nat.le_trans hz' f2.size
  refine ad3 Z (ub Z Z Z Z (hone _ _ _ hI2) (hb0''.cell 0) (hb0''.frozen 0)) ?_
  have f3:=Fr.setCell W2 ⟨w.heap.size,0,none⟩ v'
  have hL3:=(f3.keep (w.heap.size+3) (by omega) (by simp)).trans hL''
  have hrr:({r with state:= .ready,pending:=none}:Loop)=r:=by cases r;simp_all
  have hL4:∀ r',r'=r→((W2.setCell ⟨w.heap.size,0,none⟩ v').putObj (w.heap.size+3) (.loop r')).heap[w.heap.size+3]? = some (.loop r):=fun r' e=>by
   rw [World.putObj_heap_same (by simp;omega),e]
  refine dh <| kq <| abd hL3 ⟨rfl,v',?_⟩
  have hL5:=hL4 _ hrr
  generalize hW4:(W2.setCell ⟨w.heap.size,0,none⟩ v').putObj (w.heap.size+3) _=W4 at hL5
  have f4:Fr (· = w.heap.size+3) (W2.setCell ⟨w.heap.size,0,none⟩ v') W4:=by rw [← hW4];exact Fr.putObj _ _ _
  show Blk _ _ _ _∧_
  refine ⟨?_,?_,?_,?_,?_,?_,?_⟩
  ·exact ((hb0''.set 0 v').fr f4 (by omega))
  ·exact (hb1''.fr f3 (by simp)).fr f4 (by omega)
  ·exact hst _ _ _ _ _ (hst _ _ _ _ _ hI2 f3 (fun k h=>by simp at h;omega)) f4 (fun k h=>by omega)
  ·exact (f4.keep _ (by simp;omega) (by omega)).trans ((f3.keep _ (by omega) (by simp)).trans hD'')
  ·exact hL5
  ·exact (hE''.trans' f3 (fun j hj h=>by simp at h;omega)).trans' f4 (fun j hj h=>by omega)
  ·have:=f3.size;have:=f4.size;omega
 ·rintro e W ⟨⟨u,rfl⟩,v,hb0,hb1,hI,hD,hL,hE,hz⟩
  refine ⟨⟨_,rfl⟩,r,hL,by rw [hr1];decide,?_⟩
  rw [hr2]

  dsimp only
  generalize hW4:W.putObj (w.heap.size+2+1) _=W4
  have f1:Fr (· = w.heap.size+3) W W4:=by rw [← hW4];exact Fr.putObj _ _ _
  refine kq <| bn <| dc <| bx <| dr Z (bm Z Z Z ((hb0.fr f1 (by omega)).cell 0)) Z ?_
  repeat refine o_p Z Z Z ?_
  have hD1:=(f1.keep (w.heap.size+2) (by omega) (by omega)).trans hD
  refine (dh (bn (dq (anj Z Z hD1 ⟨v,rfl,?_,?_⟩))))
  ·exact hst _ _ _ _ _ (hst _ _ _ _ _ hI f1 (fun k h=>by omega)) (Fr.putObj _ _ _) (fun k h=>by omega)
  ·exact (hE.trans' f1 (fun j hj h=>by omega)).trans' (Fr.putObj _ _ _) (fun j hj h=>by omega)

theorem agz {b1 b2:Nat} {va vb:Value} {xs ys:List Int} {w:World} (I:Nat→Value→World→Prop) (g:FuncId) (gc:List Value) [Bodied Tryz.prog g] (v0:Value)
  (h1:w.cell? ⟨b1,0,none⟩=some va) (h2:w.cell? ⟨b2,0,none⟩=some vb) (ha:IL w va xs) (hb:IL w vb ys) (hI0:I 0 v0 w) (hone:∀ i v W,I i v W→v.oneCell'=true)
  (hst:∀ i v W W' S,I i v W→Fr S W W'→(∀ k,S k→w.heap.size≤k∧k<w.heap.size+4)→I i v W')
  (hstep:∀ i v W,i<max xs.length ys.length→I i v W→Ext w W→w.heap.size+4≤W.heap.size→Calls Tryz.prog g ([v,.int .i64 (nn xs i),.int .i64 (nn ys i)]++gc).toArray W fun e W' =>
   ∃ v',e = .returned v'∧I (i+1) v' W'∧Fr (fun k=>w.heap.size+4≤k) W W') :
  Calls Tryz.prog ab0 #[.func (.func li) ⟨[]⟩ ⟨[ady b1,ady b2]⟩,v0,.func (.func g) ⟨[]⟩ ⟨gc⟩] w fun e W'=>∃ v,e = .returned v∧I (max xs.length ys.length) v W'∧Ext w W':=by
 have c0:v0.cells = #[v0]:=by have:=hone _ _ _ hI0;cases v0 <;> first | rfl | (simp [Value.oneCell'] at this)
 refine ani Tryz.func180 Z Z <| dc <| bx <| dr Z (n7 Z) Z <| dr Z (n7 Z) Z ?_
 rw [c0]
 obtain ⟨w1,hw1⟩:∃ w1,(w.alloc (.cells #[v0] fk)).alloc (.cells (Value.func (.func g) ⟨[]⟩ ⟨gc⟩).cells jn)=w1:=⟨_,rfl⟩
 have B0:Blk w1 w.heap.size fk [v0]:=by rw [← hw1];exact (Blk.new w _ [v0]).ext (Fr.alloc _ _)
 have B1:Blk w1 (w.heap.size+1) jn [.func (.func g) ⟨[]⟩ ⟨gc⟩]:=by
  rw [← hw1]
  have:=Blk.new (w.alloc (.cells #[v0] fk)) jn [.func (.func g) ⟨[]⟩ ⟨gc⟩]
  rwa [World.size_alloc] at this
 have e1:Ext w w1:=by rw [← hw1];exact (Fr.alloc _ _).trans (Fr.alloc _ _)
 have z1:w1.heap.size=w.heap.size+2:=by rw [← hw1];simp
 have I1:I 0 v0 w1:=hst _ _ _ _ ai1 hI0 e1 (fun k h=>h.elim)
 rw [World.size_alloc,hw1]
 clear hw1
 repeat refine o_p Z Z Z ?_
 refine dh <| bn <| dc <| dc <| bx ?_
 repeat refine o_p Z Z Z ?_
 refine dh <| bn <| iq <| z5 Z ?_
 intro r hr1 hr2 hr3 hr4 hr5 hr6 hkn
 obtain ⟨w2,hw2⟩:∃ w2,(w1.alloc (.deferred (some []))).alloc (.loop r)=w2:=⟨_,rfl⟩
 have e2:Ext w1 w2:=by rw [← hw2];exact (Fr.alloc _ _).trans (Fr.alloc _ _)
 have D2:w2.heap[w.heap.size+2]? = some (.deferred (some [])):=by
  rw [← hw2,← z1];exact (Below.heap_alloc _ _ _ (by simp)).trans (World.alloc_heap_new w1 _)
 have L2:w2.heap[w.heap.size+3]? = some (.loop r):=by
  rw [← hw2];have:=World.alloc_heap_new (w1.alloc (.deferred (some []))) (.loop r);rwa [World.size_alloc,z1] at this
 have z2:w2.heap.size=w.heap.size+4:=by rw [← hw2];simp [z1]
 rw [hw2]
 rw [z1]
 let J:Nat→World→Prop:=fun i W=>∃ v,Blk W w.heap.size fk [v]∧Blk W (w.heap.size+1) jn [.func (.func g) ⟨[]⟩ ⟨gc⟩]∧I i v W∧W.heap[w.heap.size+2]? = some (.deferred (some [])) ∧
  W.heap[w.heap.size+3]? = some (.loop r)∧Ext w W∧w.heap.size+4≤W.heap.size
 have hJ0:J 0 w2:=⟨v0,B0.ext e2,B1.ext e2,hst _ _ _ _ ai1 I1 e2 (fun k h=>h.elim),D2,L2,e1.trans e2,by omega⟩
 refine (aaq J h1 h2 ha hb (fun i W ⟨v,_,_,_,_,_,h,_⟩=>h) ?_ ?_ hJ0).mono ?_
 ·rintro i W W' ⟨v,hb0,hb1,hI,hD,hL,hE,hz⟩ hW
  exact ⟨v,hb0.ext hW,hb1.ext hW,hst _ _ _ _ ai1 hI hW (fun k h=>h.elim),(hW.blk (by omega)).trans hD,(hW.blk (by omega)).trans hL,hE.trans hW,Nat.le_trans hz hW.size⟩
 ·rintro i hi W ⟨v,hb0,hb1,hI,hD,hL,hE,hz⟩

  refine ai3 hL (by rw [hr3];rfl) (by rw [hr3];decide) hkn ?_
  rw [hr3,hr4,hr5]
  refine dc <| bx ?_
  repeat refine o_p Z Z Z ?_
  refine dh <| bn <| bx ?_
  repeat refine o_p Z Z Z ?_
  refine dh <| ar8 hL hr1 ?_
  obtain ⟨W1,hW1⟩:∃ W1,W.putObj (w.heap.size+3) (.loop {r with state:= .busy})=W1:=⟨_,rfl⟩
  have f1:Fr (· = w.heap.size+3) W W1:=by rw [← hW1];exact Fr.putObj _ _ _
  have hL1:W1.heap[w.heap.size+3]? = some (.loop {r with state:= .busy}):=by rw [← hW1];exact World.putObj_heap_same (by omega)
  have hb0':=hb0.fr f1 (by omega)
  have hb1':=hb1.fr f1 (by omega)
  have hI':=hst _ _ _ _ _ hI f1 (fun k h=>by omega)
  have hD':=(f1.keep (w.heap.size+2) (by omega) (by omega)).trans hD
  have hE':Ext w W1:=hE.trans' f1 (fun j hj h=>by omega)
  have hz':w.heap.size+4≤W1.heap.size:=Nat.le_trans hz f1.size
  rw [hW1]
  refine iq <| bx <| dr Z (bm Z Z Z (hb1'.cell 0)) Z <| dr Z (bm Z Z Z (hb0'.cell 0)) Z ?_
  repeat refine o_p Z Z Z ?_
  refine ia Z (dm Z) Z <| (hstep i v W1 hi hI' hE' hz').mono ?_
  rintro _ W2 ⟨v',rfl,hI2,f2⟩;refine ⟨_,rfl,?_⟩
  have hb0'':=hb0'.fr f2 (by omega)
  have hb1'':=hb1'.fr f2 (by omega)
  have hD'':=(f2.keep (w.heap.size+2) (by omega) (by omega)).trans hD'
  have hL'':=(f2.keep (w.heap.size+3) (by omega) (by omega)).trans hL1
  have hE'':Ext w W2:=hE'.trans' f2 (fun j hj h=>by omega)
  have hz'':w.heap.size+4≤W2.heap.size:=Nat.le_trans hz' f2.size
  refine ad3 Z (ub Z Z Z Z (hone _ _ _ hI2) (hb0''.cell 0) (hb0''.frozen 0)) ?_
  have f3:=Fr.setCell W2 ⟨w.heap.size,0,none⟩ v'
  have hL3:=(f3.keep (w.heap.size+3) (by omega) (by simp)).trans hL''
  have hrr:({r with state:= .ready,pending:=none}:Loop)=r:=by cases r;simp_all
  have hL4:∀ r',r'=r→((W2.setCell ⟨w.heap.size,0,none⟩ v').putObj (w.heap.size+3) (.loop r')).heap[w.heap.size+3]? = some (.loop r):=fun r' e=>by
   rw [World.putObj_heap_same (by simp;omega),e]
  refine dh <| kq <| abd hL3 ⟨rfl,v',?_⟩
  have hL5:=hL4 _ hrr
  generalize hW4:(W2.setCell ⟨w.heap.size,0,none⟩ v').putObj (w.heap.size+3) _=W4 at hL5
  have f4:Fr (· = w.heap.size+3) (W2.setCell ⟨w.heap.size,0,none⟩ v') W4:=by rw [← hW4];exact Fr.putObj _ _ _
  show Blk _ _ _ _∧_
  refine ⟨?_,?_,?_,?_,?_,?_,?_⟩
  ·exact ((hb0''.set 0 v').fr f4 (by omega))
  ·exact (hb1''.fr f3 (by simp)).fr f4 (by omega)
  ·exact hst _ _ _ _ _ (hst _ _ _ _ _ hI2 f3 (fun k h=>by simp at h;omega)) f4 (fun k h=>by omega)
  ·exact (f4.keep _ (by simp;omega) (by omega)).trans ((f3.keep _ (by omega) (by simp)).trans hD'')
  ·exact hL5
  ·exact (hE''.trans' f3 (fun j hj h=>by simp at h;omega)).trans' f4 (fun j hj h=>by omega)
  ·have:=f3.size;have:=f4.size;omega
 ·rintro e W ⟨⟨u,rfl⟩,v,hb0,hb1,hI,hD,hL,hE,hz⟩
  refine ⟨⟨_,rfl⟩,r,hL,by rw [hr1];decide,?_⟩
  rw [hr2]

  dsimp only
  generalize hW4:W.putObj (w.heap.size+2+1) _=W4
  have f1:Fr (· = w.heap.size+3) W W4:=by rw [← hW4];exact Fr.putObj _ _ _
  refine kq <| bn <| dc <| bx <| dr Z (bm Z Z Z ((hb0.fr f1 (by omega)).cell 0)) Z ?_
  repeat refine o_p Z Z Z ?_
  have hD1:=(f1.keep (w.heap.size+2) (by omega) (by omega)).trans hD
  refine (dh (bn (dq (anj Z Z hD1 ⟨v,rfl,?_,?_⟩))))
  ·exact hst _ _ _ _ _ (hst _ _ _ _ _ hI f1 (fun k h=>by omega)) (Fr.putObj _ _ _) (fun k h=>by omega)
  ·exact (hE.trans' f1 (fun j hj h=>by omega)).trans' (Fr.putObj _ _ _) (fun j hj h=>by omega)


def acb (p:Int→Int→Int) (xs ys:List Int):List Int:=(List.range (max xs.length ys.length)).map fun i=>p (nn xs i) (nn ys i)
abbrev joinL:=acb max
theorem aqe (a b:Int) (w:World):Calls Tryz.prog aaz #[.int .i64 a,.int .i64 b] w fun e w'=>e = .returned (.int .i64 (max a b))∧w=w':=by
 refine pz Tryz.func144 Z Z ?_
 repeat (first | refine o_p Z Z Z ?_ | refine on ?_ | refine sr ?_ | refine ss ?_)
 exact dq (eo Z Z ⟨rfl,rfl⟩)
theorem asu (b:Bool) (x y:Int) (w:World):Calls Tryz.prog abv #[.bool b,.int .i64 x,.int .i64 y] w fun e w'=>e = .returned (.bool (b&&decide (x≤y)))∧w=w':=by
 refine ai0 Tryz.func89 Z Z <| dc <| bx ?_
 repeat refine o_p Z Z Z ?_
 refine dh <| bn <| dc <| bx ?_
 repeat refine o_p Z Z Z ?_
 cases b
 ·repeat (first | refine qh Z Z ?_ | refine o_p Z Z Z ?_)
  exact (dh (bn (dq (eo Z Z ⟨rfl,rfl⟩))))
 ·repeat (first | refine qh Z Z ?_ | refine o_p Z Z Z ?_)
  exact (dh (bn (dq (eo Z Z ⟨rfl,rfl⟩))))
def capI:Int:=4611686018427387904
theorem als (n a y:Int) (w:World) (hn:0≤n∧n≤capI) (ha:0≤a):Calls Tryz.prog x6 #[.int .i64 n,.int .i64 a,.int .i64 y] w fun e w'=>e = .returned (.int .i64 (n+min a (capI - n)))∧w=w':=by
 unfold capI at *
 refine ai0 Tryz.func236 Z Z <| dc <| bx ?_
 repeat refine o_p Z Z Z ?_
 refine dh <| bn <| dc <| bx ?_
 repeat refine o_p Z Z Z ?_
 refine o_c Z Z Z (by unfold I64;omega) ?_
 repeat refine o_p Z Z Z ?_
 refine o_c Z Z Z (by unfold I64;omega) ?_
 repeat refine o_p Z Z Z ?_
 exact (dh (bn (dq (eo Z Z ⟨rfl,rfl⟩))))

theorem alt (p:Int→Int→Int) (g:FuncId) [Bodied Tryz.prog g] (hg:∀ a b w,Calls Tryz.prog g #[.int .i64 a,.int .i64 b] w fun e w'=>e = .returned (.int .i64 (p a b))∧w=w')
  {v:Value} {i base bp:Nat} {cs:List Value} {a b:Int} {w:World} (hv:kd w base fe 1 v i cs) (hbp:w.cell? ⟨bp,0,none⟩=some (.func (.func g) ⟨[]⟩ ⟨[]⟩)) (hi:i+1≤67108864) (hbase:base≤w.heap.size) :
  Calls Tryz.prog x4 #[v,.int .i64 a,.int .i64 b,ady bp] w fun e w'=>∃ v',e = .returned v'∧kd w' base fe 1 v' (i+1) (cs ++ [.int .i64 (p a b)])∧Fr (fun k=>base≤k) w w':=by
 refine ar4 Tryz.func181 Z Z <| dc <| bx ?_
 repeat refine o_p Z Z Z ?_
 refine dh <| bn <| dc <| bx ?_
 repeat refine o_p Z Z Z ?_
 refine dr Z (bm Z Z Z hbp) Z ?_
 repeat refine o_p Z Z Z ?_
 refine ia Z (dm Z) Z <| (hg a b w).mono ?_
 rintro _ w1 ⟨rfl,rfl⟩;refine ⟨_,rfl,?_⟩
 refine dr Z (jk (vs:= [(0,.int .i64 (p a b))]) (cells:= [.int .i64 (p a b)]) Z Z Z Z (by decide) (fun z hz=>by
  match z,hz with
  | [y], _ => rfl)) Z ?_
 have B:=Blk.new w fe [.int .i64 (p a b)]
 refine agi Z Z Z Z Z Z Z Z (kd.ext hv (Fr.alloc _ _)) (B.sl (n:=1) (sz:=1) Z (by decide)) (by simp;rfl) hi (by simp;omega) ?_;intro v' w' own fr
 repeat refine o_p Z Z Z ?_
 refine dh <| bn <| dq <| eo Z Z ⟨v',rfl,own,((Fr.alloc _ _).trans' (fr.mono fun k _ hk=> ?_) (fun j hj h=>h))⟩
 exact (kd.block hv hk).1

theorem aqf (p:Int→Int→Int) (g:FuncId) [Bodied Tryz.prog g] (hg:∀ a b w,Calls Tryz.prog g #[.int .i64 a,.int .i64 b] w fun e w'=>e = .returned (.int .i64 (p a b))∧w=w')
  {va vb:Value} {xs ys:List Int} {w:World} (ha:IL w va xs) (hb:IL w vb ys) (hx:xs.length≤1048576) (hy:ys.length≤1048576) :
  Calls Tryz.prog aif #[va,vb,.func (.func g) ⟨[]⟩ ⟨[]⟩] w fun e w'=>∃ v,e = .returned v∧kd w' w.heap.size fe 1 v (acb p xs ys).length ((acb p xs ys).map (Value.int .i64))∧Ext w w':=by
 have ca:va.cells = #[va]:=by obtain ⟨A,c,rfl,_⟩:=ha.op;rfl
 have cb:vb.cells = #[vb]:=by obtain ⟨A,c,rfl,_⟩:=hb.op;rfl
 refine ai0 Tryz.func143 Z Z <| dc <| bx <| dr Z (n7 Z) Z ?_
 repeat refine o_p Z Z Z ?_
 refine dh <| bn <| dc <| bx ?_
 repeat refine o_p Z Z Z ?_
 refine ia Z (dm Z) Z <| aeu.mono ?_
 rintro _ w1 ⟨rfl,rfl⟩;refine ⟨_,rfl,?_⟩
 rw [ca,cb]
 have B0:Blk (w.alloc (.cells (Value.func (.func g) ⟨[]⟩ ⟨[]⟩).cells nc)) w.heap.size nc [.func (.func g) ⟨[]⟩ ⟨[]⟩]:=Blk.new w _ _
 generalize hw0:w.alloc (.cells (Value.func (.func g) ⟨[]⟩ ⟨[]⟩).cells nc)=w0 at *
 have e0:Ext w w0:=by rw [← hw0];exact Fr.alloc _ _
 have z0:w0.heap.size=w.heap.size+1:=by rw [← hw0];simp
 have B1:Blk (w0.alloc (.cells #[va] fk)) w0.heap.size fk [va]:=Blk.new w0 _ [va]
 generalize hw1:w0.alloc (.cells #[va] fk)=w1 at *
 have e1:Ext w0 w1:=by rw [← hw1];exact Fr.alloc _ _
 have z1:w1.heap.size=w0.heap.size+1:=by rw [← hw1];simp
 have B2:Blk (w1.alloc (.cells #[vb] fk)) w1.heap.size fk [vb]:=Blk.new w1 _ [vb]
 generalize hw2:w1.alloc (.cells #[vb] fk)=w2 at *
 have e2:Ext w1 w2:=by rw [← hw2];exact Fr.alloc _ _
 have z2:w2.heap.size=w1.heap.size+1:=by rw [← hw2];simp
 have eE:Ext w w2:=(e0.trans e1).trans e2
 repeat refine o_p Z Z Z ?_
 rw [z1] at B2
 have hlen:(acb p xs ys).length=max xs.length ys.length:=by simp [acb]
 have Bf:=(B0.ext e1).ext e2
 refine ia Z (dm Z) Z ((agz (fun i v W=>Blk W w.heap.size nc [.func (.func g) ⟨[]⟩ ⟨[]⟩]∧kd W (w2.heap.size+4) fe 1 v i (((acb p xs ys).take i).map (Value.int .i64)))
  x4 [ady w.heap.size] (.slice none 0 0) ((B1.ext e2).cell 0) (B2.cell 0) (ha.ext eE) (hb.ext eE) ⟨Bf,by simpa using kd.nil _ _ _ _⟩ ?_ ?_ ?_).mono ?_)
 ·rintro i v W ⟨_,hI⟩
  rcases hI.2 with ⟨rfl,_⟩ | ⟨_,_,_,rfl,_⟩ <;> rfl
 ·rintro i v W W' S ⟨hB,hI⟩ hf hS
  refine ⟨hB.fr hf (fun h=>by have:=hS _ h;omega),kd.fr hI hf (fun k hk hs=> ?_)⟩
  have h1:=hS k hs
  have h2:=(kd.block hI hk).1
  omega
 ·rintro i v W hi ⟨hB,hI⟩ hE hz
  refine (alt p g hg hI (hB.cell 0) (by omega) (by omega)).mono ?_
  rintro e W' ⟨v',rfl,hI',f⟩
  refine ⟨v',rfl,⟨hB.fr f (by omega),?_⟩,f⟩
  have hi':i<(acb p xs ys).length:=by omega
  rw [List.take_succ_eq_append_getElem hi']
  have:(acb p xs ys)[i]=p (nn xs i) (nn ys i):=by simp [acb]
  rw [List.map_append,List.map_singleton,this]
  exact hI'
 ·rintro _ w3 ⟨v,rfl,⟨hB,hI⟩,hE⟩
  refine ⟨_,rfl,?_⟩
  repeat refine o_p Z Z Z ?_
  refine dh <| bn <| dq <| eo Z Z ⟨v,rfl,?_,eE.trans hE⟩
  rw [← hlen,List.take_length] at hI
  exact kd.weaken hI (by omega)

theorem ame {va vb:Value} {xs ys:List Int} {w:World} (ha:IL w va xs) (hb:IL w vb ys) (hx:xs.length≤1048576) (hy:ys.length≤1048576) :
  Calls Tryz.prog ad7 #[va,vb] w fun e w'=>∃ v,e = .returned v∧kd w' w.heap.size fe 1 v (joinL xs ys).length ((joinL xs ys).map (Value.int .i64))∧Ext w w':=by
 refine pz Tryz.func90 Z Z ?_
 repeat (first | refine o_p Z Z Z ?_ | refine on ?_ | refine sr ?_ | refine ss ?_)
 refine ia Z (dm Z) Z <| (aqf max aaz aqe ha hb hx hy).mono ?_
 rintro _ w1 ⟨v,rfl,hm,hE⟩;refine ⟨_,rfl,?_⟩
 repeat (first | refine o_p Z Z Z ?_ | refine on ?_ | refine sr ?_ | refine ss ?_)
 exact dq (eo Z Z ⟨v,rfl,hm,hE⟩)

theorem zb (xs:List Int) (i:Nat):0≤nn xs i:=by unfold nn;omega
def qb (xs ys:List Int):Bool:=(List.range (max xs.length ys.length)).all fun i=>decide (nn xs i≤nn ys i)
theorem aj1 (xs ys:List Int):qb xs ys=true↔∀ i,nn xs i≤nn ys i:=by
 simp only [qb,List.all_eq_true,List.mem_range,decide_eq_true_eq]
 refine ⟨fun h i=> ?_,fun h i _=>h i⟩
 by_cases hi:i<max xs.length ys.length
 ·exact h i hi
 ·rw [aoa (by omega),aoa (by omega)];omega
def mc (xs:List Int):Nat→Int
 | 0 => 0
 | i + 1 => mc xs i + min (nn xs i) (capI - mc xs i)
def jo (xs:List Int):Int:=mc xs xs.length
theorem ad9 (xs:List Int) (i:Nat):0≤mc xs i∧mc xs i≤capI:=by
 induction i with
 | zero => simp [mc, capI]
 | succ i ih => have := zb xs i; simp only [mc]; omega
theorem aqg (xs:List Int) (i k:Nat) (h:mc xs i=capI):mc xs (i+k)=capI:=by
 induction k with
 | zero => exact h
 | succ k ih => have := zb xs (i + k); rw [← Nat.add_assoc]; simp only [mc, ih]; omega

theorem asv (q:Int→Int→Bool) (g:FuncId) [Bodied Tryz.prog g] (hg:∀ b x y w,Calls Tryz.prog g #[.bool b,.int .i64 x,.int .i64 y] w fun e w'=>e = .returned (.bool (b&&q x y))∧w=w')
  {va vb:Value} {xs ys:List Int} {w:World} (ha:IL w va xs) (hb:IL w vb ys) :
  Calls Tryz.prog w9 #[.func (.func li) ⟨[]⟩ ⟨[ady w.heap.size,ady (w.heap.size+1)]⟩,.bool true,.func (.func g) ⟨[]⟩ ⟨[]⟩] ((w.alloc (.cells va.cells fk)).alloc (.cells vb.cells fk))
   fun e w'=>e = .returned (.bool ((List.range (max xs.length ys.length)).all fun i=>q (nn xs i) (nn ys i)))∧Ext w w':=by
 have ca:va.cells = #[va]:=by obtain ⟨A,c,rfl,_⟩:=ha.op;rfl
 have cb:vb.cells = #[vb]:=by obtain ⟨A,c,rfl,_⟩:=hb.op;rfl
 rw [ca,cb]
 have B1:Blk (w.alloc (.cells #[va] fk)) w.heap.size fk [va]:=Blk.new w _ [va]
 have e1:Ext w (w.alloc (.cells #[va] fk)):=Fr.alloc _ _
 have z1:(w.alloc (.cells #[va] fk)).heap.size=w.heap.size+1:=by simp
 generalize w.alloc (.cells #[va] fk)=w1 at *
 have B2:Blk (w1.alloc (.cells #[vb] fk)) w1.heap.size fk [vb]:=Blk.new w1 _ [vb]
 have e2:Ext w1 (w1.alloc (.cells #[vb] fk)):=Fr.alloc _ _
 generalize w1.alloc (.cells #[vb] fk)=w2 at *
 have eE:Ext w w2:=e1.trans e2
 rw [z1] at B2
 refine (aj0 (fun i v _=>v = .bool ((List.range i).all fun i=>q (nn xs i) (nn ys i))) g [] (.bool true) ((B1.ext e2).cell 0) (B2.cell 0) (ha.ext eE) (hb.ext eE) Z ?_ ?_ ?_).mono ?_
 ·rintro i v W rfl;rfl
 ·rintro i v W W' S rfl _ _;rfl
 ·rintro i v W hi rfl hE hz
  refine (hg _ _ _ _).mono ?_
  rintro e W' ⟨rfl,rfl⟩
  exact ⟨_,rfl,by simp [List.range_succ],Fr.refl _ _⟩
 ·rintro e w3 ⟨v,rfl,rfl,hE⟩
  exact ⟨rfl,eE.trans hE⟩

theorem ay4 {va vb:Value} {xs ys:List Int} {w:World} (ha:IL w va xs) (hb:IL w vb ys):Calls Tryz.prog an4 #[va,vb] w fun e w'=>e = .returned (.bool (qb xs ys))∧Ext w w':=by
 refine pz Tryz.func28 Z Z <| sr <| o_p Z Z Z <| on <| sr <| o_p Z Z Z <| o_p Z Z Z <| ia Z (dm Z) Z <| aeu.mono ?_
 rintro _ w1 ⟨rfl,rfl⟩;refine ⟨_,rfl,?_⟩
 refine ia Z (dm Z) Z <| (asv (fun x y=>decide (x≤y)) abv asu ha hb).mono ?_
 rintro _ w1 ⟨rfl,e1⟩;refine ⟨_,rfl,?_⟩
 refine o_p Z Z Z <| on ?_
 exact dq (eo Z Z ⟨rfl,e1⟩)
theorem x7 {va:Value} {xs:List Int} {w:World} (ha:IL w va xs):Calls Tryz.prog aig #[va] w fun e w'=>e = .returned (.int .i64 (jo xs))∧Ext w w':=by
 have ca:va.cells = #[va]:=by obtain ⟨A,c,rfl,_⟩:=ha.op;rfl
 have hb:IL w (.slice none 0 0) ([]:List Int):=VL.nil _ _
 have cb:(Value.slice none 0 0).cells = #[.slice none 0 0]:=rfl
 refine aee Tryz.func232 Z Z <| sr <| o_p Z Z Z <| on <| sr <| o_p Z Z Z <| ia Z (dm Z) Z <| aeu.mono ?_
 rintro _ w1 ⟨rfl,rfl⟩;refine ⟨_,rfl,?_⟩
 rw [ca,cb]
 have B1:Blk (w.alloc (.cells #[va] fk)) w.heap.size fk [va]:=Blk.new w _ [va]
 have e1:Ext w (w.alloc (.cells #[va] fk)):=Fr.alloc _ _
 have z1:(w.alloc (.cells #[va] fk)).heap.size=w.heap.size+1:=by simp
 generalize w.alloc (.cells #[va] fk)=w1 at *
 have B2:Blk (w1.alloc (.cells #[.slice none 0 0] fk)) w1.heap.size fk [.slice none 0 0]:=Blk.new w1 _ _
 have e2:Ext w1 (w1.alloc (.cells #[.slice none 0 0] fk)):=Fr.alloc _ _
 generalize w1.alloc (.cells #[.slice none 0 0] fk)=w2 at *
 have eE:Ext w w2:=e1.trans e2
 rw [z1] at B2
 refine ia Z (dm Z) Z ((alr (fun i v _=>v = .int .i64 (mc xs i)) x6 [] (.int .i64 0) ((B1.ext e2).cell 0) (B2.cell 0) (ha.ext eE) (hb.ext eE) Z ?_ ?_ ?_).mono ?_)
 ·rintro i v W rfl;rfl
 ·rintro i v W W' S rfl _ _;rfl
 ·rintro i v W hi rfl hE hz
  refine (als _ _ _ _ (ad9 xs i) (zb xs i)).mono ?_
  rintro e W' ⟨rfl,rfl⟩
  exact ⟨_,rfl,rfl,Fr.refl _ _⟩
 ·rintro e w3 ⟨v,rfl,rfl,hE⟩
  refine ⟨_,rfl,(o_p Z Z Z <| on ?_)⟩
  have hm:max xs.length ([]:List Int).length=xs.length:=by simp
  rw [hm]
  exact dq (eo Z Z ⟨rfl,eE.trans hE⟩)

abbrev nu (r n:Int):Value:= .agg #[.int .i64 r,.int .i64 n]
def u5 (xs:List Int) (r n:Int):Bool:=decide (1≤r)&&decide (1≤n)&&decide (n≤atL xs r)

theorem adz {va:Value} {xs:List Int} {r n:Int} {w:World} (ha:IL w va xs):Calls Tryz.prog an3 #[va,nu r n] w fun e w'=>e = .returned (.bool (u5 xs r n))∧Ext w w':=by
 refine pz Tryz.func27 Z Z <| dc <| bx <| dr Z (n7 Z) Z ?_
 have B:Blk (w.alloc (.cells (nu r n).cells t_api_Dot)) w.heap.size t_api_Dot [.int .i64 r,.int .i64 n]:=Blk.new w _ _
 have e1:Ext w (w.alloc (.cells (nu r n).cells t_api_Dot)):=Fr.alloc _ _
 generalize w.alloc (.cells (nu r n).cells t_api_Dot)=w1 at *
 have hR:=B.cell 0
 have hN:=B.cell 1
 refine o_p Z Z Z <| dh <| bn <| dc <| m0 flo (fun W'=>Ext w1 W') (by decide) (Fr.drew _) <| d_p Z Z Z Z <| gt Z Z (fun W' hW'=>bm Z Z Z (hW'.cell hR)) Z <| d_p Z Z Z Z <| d_p Z Z Z Z ?_
 refine a1s 8 Z (fun h1=> ?_) (fun h1=> ?_)
 ·refine d_p Z Z Z Z <| gt Z Z (fun W' hW'=>bm Z Z Z (hW'.cell hN)) Z <| d_p Z Z Z Z <| d_p Z Z Z Z <| d_p Z Z Z Z ?_
  refine a1s 13 Z (fun h2=> ?_) (fun h2=> ?_)
  ·refine d_p Z Z Z Z <| gt Z Z (fun W' hW'=>bm Z Z Z (hW'.cell hN)) Z <| d_p Z Z Z Z <| d_p Z Z Z Z <| gt Z Z (fun W' hW'=>bm Z Z Z (hW'.cell hR)) Z <| lm Z Z (dm Z) Z <| (od (ha.ext (e1.trans (Fr.drew _)))).mono ?_
   rintro _ w2 ⟨rfl,rfl⟩;refine ⟨_,rfl,Fr.drew _,?_⟩
   refine d_p Z Z Z Z <| d_p Z Z Z Z <| d_p Z Z Z Z <| lu <| bn <| dq <| eo Z Z ⟨?_,e1.trans (Fr.drew _)⟩
   simp [u5,h1,h2]
  ·(iterate 7 refine z4 Z Z ?_)
   refine d_p Z Z Z Z <| d_p Z Z Z Z <| lu <| bn <| dq <| eo Z Z ⟨?_,e1.trans (Fr.drew _)⟩
   simp [u5,h2]
 ·refine z4 Z Z <| z4 Z Z <| z4 Z Z <| d_p Z Z Z Z <| d_p Z Z Z Z ?_
  (iterate 7 refine z4 Z Z ?_)
  refine d_p Z Z Z Z <| d_p Z Z Z Z <| lu <| bn <| dq <| eo Z Z ⟨?_,e1.trans (Fr.drew _)⟩
  simp [u5,h1]


theorem ahy {va vb:Value} {xs ys:List Int} {w:World} (ha:IL w va xs) (hb:IL w vb ys) (hx:xs.length≤1048576):Calls Tryz.prog adm #[va,vb] w fun e w'=>e = .returned (.bool (qb xs ys))∧Ext w w':=by
 obtain ⟨A,c,rfl,hnc,hcm,hz,hcell⟩:=id ha
 refine pz Tryz.func109 Z Z <| sr <| o_p Z Z Z <| on <| ss <| sr <| o_p Z Z Z <| on ?_
 refine iq (vk (G:=Nat) (fun i=> [(0,.slice A xs.length c),(1,vb),(5,.int .i64 ((i:Int)+1))]) (fun i W=>Ext w W∧i≤xs.length∧∀ j,j<i→nn xs j≤nn ys j) (fun i=>xs.length - i) ?_ ?_)
 ·exact ⟨0,⟨rfl,rfl,rfl,trivial⟩,Fr.refl _ _,Nat.zero_le _,fun j hj=>by omega⟩
 rintro i W ⟨hE,hi,hJ⟩
 try dsimp only
 refine ss <| sr <| o_p Z Z Z <| o_p Z Z Z <| o_p Z Z Z <| o_p Z Z Z <| on ?_
 refine qv Z (fun h=> ?_) (fun h=> ?_)
 ·refine jg <| bn <| dc <| iq <| dc <| bx <| o_p Z Z Z <| o_p Z Z Z <| ia Z (dm Z) Z <| (kf (ha.ext hE)).mono ?_
  rintro _ w1 ⟨rfl,rfl⟩;refine ⟨_,rfl,?_⟩
  refine o_p Z Z Z <| o_p Z Z Z <| ia Z (dm Z) Z <| (kf (hb.ext hE)).mono ?_
  rintro _ w1 ⟨rfl,rfl⟩;refine ⟨_,rfl,?_⟩
  refine o_p Z Z Z ?_
  rw [aca,aca]
  refine (dh (bn (qv Z (fun h2=> ?_) (fun h2=> ?_))))
  ·refine dc <| bx <| o_p Z Z Z <| dh <| bn <| dq <| js <| eg <| t8 <| js <| eg <| eo Z Z ⟨?_,hE⟩
   have:¬ qb xs ys=true:=fun hh=>by have:=(aj1 xs ys).1 hh i;omega
   simp [this]
  ·refine jg <| kq <| bn <| bx <| o_p Z Z Z ?_
   refine o_c Z Z Z (by unfold I64;omega) ?_
   refine o_p Z Z Z ?_
   refine (dh (p8 (i+1) ?_ ?_ ?_))
   ·exact ⟨rfl,rfl,rfl,trivial⟩
   ·refine ⟨hE,by omega,fun j hj=> ?_⟩
    rcases Nat.lt_or_ge j i with h3 | h3
    ·exact hJ j h3
    ·obtain rfl:j=i:=by omega
     omega
   ·show xs.length - (i+1)<xs.length - i;omega
 ·refine re <| jr <| j9 <| jj <| bn <| dc <| bx <| o_p Z Z Z <| dh <| bn <| dq <| eo Z Z ⟨?_,hE⟩
  have:qb xs ys=true:=(aj1 xs ys).2 fun j=>by
   rcases Nat.lt_or_ge j i with h3 | h3
   ·exact hJ j h3
   ·rw [aoa (xs:=xs) (by omega)];exact zb _ _
  rw [this]

theorem aqh {va:Value} {xs:List Int} {r n:Int} {w:World} (ha:IL w va xs):Calls Tryz.prog ads #[va,nu r n] w fun e w'=>e = .returned (.bool (u5 xs r n))∧Ext w w':=by
 refine pz Tryz.func154 Z Z <| dc <| bx <| dr Z (n7 Z) Z ?_
 have B:Blk (w.alloc (.cells (nu r n).cells t_api_Dot)) w.heap.size t_api_Dot [.int .i64 r,.int .i64 n]:=Blk.new w _ _
 have e1:Ext w (w.alloc (.cells (nu r n).cells t_api_Dot)):=Fr.alloc _ _
 generalize w.alloc (.cells (nu r n).cells t_api_Dot)=w1 at *
 have hR:=B.cell 0
 have hN:=B.cell 1
 refine o_p Z Z Z <| dh <| bn <| dc <| m0 flo (fun W'=>Ext w1 W') (by decide) (Fr.drew _) <| d_p Z Z Z Z <| gt Z Z (fun W' hW'=>bm Z Z Z (hW'.cell hR)) Z <| d_p Z Z Z Z <| d_p Z Z Z Z ?_
 refine a1s 8 Z (fun h1=> ?_) (fun h1=> ?_)
 ·refine d_p Z Z Z Z <| gt Z Z (fun W' hW'=>bm Z Z Z (hW'.cell hN)) Z <| d_p Z Z Z Z <| d_p Z Z Z Z <| d_p Z Z Z Z ?_
  refine a1s 13 Z (fun h2=> ?_) (fun h2=> ?_)
  ·refine d_p Z Z Z Z <| gt Z Z (fun W' hW'=>bm Z Z Z (hW'.cell hN)) Z <| d_p Z Z Z Z <| d_p Z Z Z Z <| gt Z Z (fun W' hW'=>bm Z Z Z (hW'.cell hR)) Z <| lm Z Z (dm Z) Z <| (kf (ha.ext (e1.trans (Fr.drew _)))).mono ?_
   rintro _ w2 ⟨rfl,rfl⟩;refine ⟨_,rfl,Fr.drew _,?_⟩
   refine d_p Z Z Z Z <| d_p Z Z Z Z <| d_p Z Z Z Z <| lu <| bn <| dq <| eo Z Z ⟨?_,e1.trans (Fr.drew _)⟩
   simp [u5,h1,h2]
  ·(iterate 7 refine z4 Z Z ?_)
   refine d_p Z Z Z Z <| d_p Z Z Z Z <| lu <| bn <| dq <| eo Z Z ⟨?_,e1.trans (Fr.drew _)⟩
   simp [u5,h2]
 ·refine z4 Z Z <| z4 Z Z <| z4 Z Z <| d_p Z Z Z Z <| d_p Z Z Z Z ?_
  (iterate 7 refine z4 Z Z ?_)
  refine d_p Z Z Z Z <| d_p Z Z Z Z <| lu <| bn <| dq <| eo Z Z ⟨?_,e1.trans (Fr.drew _)⟩
  simp [u5,h1]

theorem acd {va:Value} {xs:List Int} {w:World} (ha:IL w va xs) (hx:xs.length≤1048576):Calls Tryz.prog aao #[va] w fun e w'=>e = .returned (.int .i64 (jo xs))∧Ext w w':=by
 obtain ⟨A,c,rfl,hnc,hcm,hz,hcell⟩:=id ha
 refine aee Tryz.func204 Z Z <| sr <| o_p Z Z Z <| on <| sr <| o_p Z Z Z <| on <| ss <| sr <| o_p Z Z Z <| on ?_
 refine iq (vk (G:=Nat) (fun i=> [(0,.slice A xs.length c),(3,.int .i64 (mc xs i)),(4,.int .i64 ((i:Int)+1))]) (fun i W=>Ext w W∧i≤xs.length) (fun i=>xs.length - i) ?_ ?_)
 ·exact ⟨0,⟨rfl,rfl,rfl,trivial⟩,Fr.refl _ _,Nat.zero_le _⟩
 rintro i W ⟨hE,hi⟩
 try dsimp only
 have hwb:=ad9 xs i
 have hnn:=zb xs i
 unfold capI at hwb
 refine ss <| sr <| o_p Z Z Z <| o_p Z Z Z <| o_p Z Z Z <| o_p Z Z Z <| on ?_
 refine qv Z (fun h=> ?_) (fun h=> ?_)
 ·refine jg <| bn <| dc <| iq <| dc <| bx <| o_p Z Z Z <| o_p Z Z Z <| ia Z (dm Z) Z <| (kf (ha.ext hE)).mono ?_
  rintro _ w1 ⟨rfl,rfl⟩;refine ⟨_,rfl,?_⟩
  rw [aca]
  refine o_p Z Z Z <| on <| ss <| sr <| o_p Z Z Z <| o_p Z Z Z ?_
  refine o_c Z Z Z (by unfold I64;omega) ?_
  refine o_p Z Z Z ?_
  refine on (qv Z (fun h2=> ?_) (fun h2=> ?_))
  ·refine dc <| bx <| o_p Z Z Z <| dh <| bn <| dq <| eg <| js <| eg <| t8 <| js <| eg <| eo Z Z ⟨?_,hE⟩
   have h3:mc xs (i+1)=capI:=by simp only [mc];unfold capI;omega
   have:=aqg xs (i+1) (xs.length - (i+1)) h3
   rw [show i+1+(xs.length - (i+1))=xs.length from by omega] at this
   rw [jo,this];rfl
  ·refine jg <| bn <| bx <| o_p Z Z Z <| o_p Z Z Z ?_
   refine o_c Z Z Z (by unfold I64;omega) ?_
   refine o_p Z Z Z <| dh <| kq <| bn <| bx <| o_p Z Z Z ?_
   refine o_c Z Z Z (by unfold I64;omega) ?_
   refine o_p Z Z Z ?_
   have h3:mc xs i+nn xs i=mc xs (i+1):=by simp only [mc];unfold capI;omega
   rw [h3]
   refine (dh (p8 (i+1) ?_ ?_ ?_))
   ·exact ⟨rfl,rfl,rfl,trivial⟩
   ·exact ⟨hE,by omega⟩
   ·show xs.length - (i+1)<xs.length - i;omega
 ·refine re <| jr <| j9 <| jj <| bn <| dc <| bx <| o_p Z Z Z <| o_p Z Z Z <| dh <| bn <| dq <| eo Z Z ⟨?_,hE⟩
  obtain rfl:i=xs.length:=by omega
  rfl


abbrev MI (w:World) (base:Nat) (v:Value) (xs:List Int):Prop:=kd w base fe 1 v xs.length (xs.map (Value.int .i64))
theorem alu (v:Value) (n:Nat):(madeCells #[v] n).toList=List.replicate n v:=by
 apply List.ext_getElem
 ·simp [madeCells]
 ·intro i h1 h2
  simp [madeCells,Nat.mod_one]

def ag0 (r n:Int):List Int:=(List.replicate r.toNat 0).set (r - 1).toNat n
def afm (xs:List Int) (r n:Int):List Int:=if r<1∨16<r∨n<1∨n≤atL xs r then joinL xs [] else joinL xs (ag0 r n)

theorem ag1 {va:Value} {xs:List Int} {r n:Int} {w:World} (ha:IL w va xs) (hx:xs.length≤1048576) :
  Calls Tryz.prog alg #[va,nu r n] w fun e w'=>∃ v,e = .returned v∧MI w' w.heap.size v (afm xs r n)∧Ext w w':=by
 refine pz Tryz.func29 Z Z <| dc <| bx <| dr Z (n7 Z) Z ?_
 have B:Blk (w.alloc (.cells (nu r n).cells t_api_Dot)) w.heap.size t_api_Dot [.int .i64 r,.int .i64 n]:=Blk.new w _ _
 have e1:Ext w (w.alloc (.cells (nu r n).cells t_api_Dot)):=Fr.alloc _ _
 generalize w.alloc (.cells (nu r n).cells t_api_Dot)=w1 at *
 have hR:=B.cell 0
 have hN:=B.cell 1
 refine o_p Z Z Z <| on <| ss <| sr <| o_p Z Z Z <| dr Z (bm Z Z Z hR) Z <| o_p Z Z Z <| o_p Z Z Z ?_
 have out:∀ W,Ext w1 W→(r<1∨16<r∨n<1∨n≤atL xs r)→Calls Tryz.prog ad7 #[va,.slice none 0 0] W fun e w'=>∃ v,e = .returned v∧MI w' w.heap.size v (afm xs r n)∧Ext w w':=by
  intro W hW hc
  refine (ame (ha.ext (e1.trans hW)) (VL.nil _ _) hx (by simp)).mono ?_
  rintro e w2 ⟨v,rfl,hM,hE⟩
  refine ⟨v,rfl,?_,(e1.trans hW).trans hE⟩
  rw [afm,if_pos hc]
  exact hM.weaken (e1.trans hW).size
 refine zy 9 Z (fun h1=> ?_) (fun h1=> ?_)
 ·have h1:=of_decide_eq_true h1
  refine qh Z Z <| qh Z Z <| qh Z Z <| o_p Z Z Z <| o_p Z Z Z <| qh Z Z <| qh Z Z <| qh Z Z <| o_p Z Z Z <| on <| we Z <| sr <| o_p Z Z Z <| ia Z (dm Z) Z <| (out w1 (Fr.refl _ _) (.inl h1)).mono ?_
  rintro _ w2 ⟨v,rfl,hM,hE⟩;refine ⟨_,rfl,?_⟩
  refine o_p Z Z Z ?_
  exact (dh (bn (dq (eg (eo Z Z ⟨v,rfl,hM,hE⟩)))))
 ·have h1:=of_decide_eq_false h1
  refine o_p Z Z Z <| dr Z (bm Z Z Z hR) Z <| o_p Z Z Z <| o_p Z Z Z <| o_p Z Z Z ?_
  refine zy 14 Z (fun h2=> ?_) (fun h2=> ?_)
  ·have h2:=of_decide_eq_true h2
   refine qh Z Z <| qh Z Z <| qh Z Z <| o_p Z Z Z <| on <| we Z <| sr <| o_p Z Z Z <| ia Z (dm Z) Z <| (out w1 (Fr.refl _ _) (.inr (.inl h2))).mono ?_
   rintro _ w2 ⟨v,rfl,hM,hE⟩;refine ⟨_,rfl,?_⟩
   refine o_p Z Z Z ?_
   exact (dh (bn (dq (eg (eo Z Z ⟨v,rfl,hM,hE⟩)))))
  ·have h2:=of_decide_eq_false h2
   refine o_p Z Z Z <| dr Z (bm Z Z Z hN) Z <| o_p Z Z Z <| o_p Z Z Z ?_
   refine on (qv Z (fun h3=> ?_) (fun h3=> ?_))
   ·refine sr <| o_p Z Z Z <| ia Z (dm Z) Z <| (out w1 (Fr.refl _ _) (.inr (.inr (.inl h3)))).mono ?_
    rintro _ w2 ⟨v,rfl,hM,hE⟩;refine ⟨_,rfl,?_⟩
    refine o_p Z Z Z ?_
    exact (dh (bn (dq (eg (eo Z Z ⟨v,rfl,hM,hE⟩)))))
   ·refine jg <| bn <| dc <| dc <| m0 flo (fun W'=>Ext w1 W') (by decide) (Fr.drew _) <| d_p Z Z Z Z <| gt Z Z (fun W' hW'=>bm Z Z Z (hW'.cell hN)) Z <| d_p Z Z Z Z <| d_p Z Z Z Z <| gt Z Z (fun W' hW'=>bm Z Z Z (hW'.cell hR)) Z <| lm Z Z (dm Z) Z <| (od (ha.ext (e1.trans (Fr.drew _)))).mono ?_
    rintro _ w2 ⟨rfl,rfl⟩;refine ⟨_,rfl,Fr.drew _,?_⟩
    refine d_p Z Z Z Z ?_
    refine (lu (bn (qv Z (fun h4=> ?_) (fun h4=> ?_))))
    ·refine sr <| o_p Z Z Z <| ia Z (dm Z) Z <| (out _ (Fr.drew _) (.inr (.inr (.inr h4)))).mono ?_
     rintro _ w2 ⟨v,rfl,hM,hE⟩;refine ⟨_,rfl,?_⟩
     refine o_p Z Z Z ?_
     exact (dh (bn (dq (eg (eo Z Z ⟨v,rfl,hM,hE⟩)))))
    ·have e2:Ext w1 w1.drew:=Fr.drew _
     generalize w1.drew=w2 at *
     refine jg <| bn <| dc <| bx <| o_p Z Z Z <| dr Z (bm Z Z Z (e2.cell hR)) Z <| at9 (n:=r.toNat) (base:=w2.heap.size) (sz:=1) Z Z Z Z Z Z Z Z (by omega) (by omega) (Nat.le_refl _) ?_
     intro w3 own e3
     have hz3:=kd.block own Z
     rw [Nat.mul_one] at own
     change kd w3 _ _ _ _ _ (madeCells #[.int .i64 0] r.toNat).toList at own
     rw [alu] at own
     refine o_p Z Z Z <| on <| sr <| o_p Z Z Z <| o_p Z Z Z <| dr Z (bm Z Z Z (Ext.cell (e2.trans e3) hR)) Z ?_
     refine o_c Z Z Z (by unfold I64;omega) ?_
     refine o_p Z Z Z <| dr Z (bm Z Z Z (Ext.cell (e2.trans e3) hN)) Z <| aid (r - 1).toNat Z Z Z (by omega) (by omega) ?_
     obtain ⟨g,cap,cur,hv,hbg,hg3,hh,hcl,htk⟩:=kd.row own (by omega)
     simp only [Value.slice.injEq,Option.some.injEq,Addr.mk.injEq,and_true,true_and] at hv
     obtain ⟨rfl,rfl⟩:=hv
     have hcell:=cell_of_row w3 _ (r - 1).toNat cur _ (0,0) hh
     have hlt:(r - 1).toNat<cur.size:=by simp at hcl;omega
     obtain ⟨x0,hx0⟩:∃ u,cur[(r - 1).toNat]? = some u:=⟨_,Array.getElem?_eq_getElem hlt⟩;rw [hx0] at hcell
     have h0:0+(r - 1).toNat=(r - 1).toNat:=Nat.zero_add _
     have hfr:=frozen_of_row w3 w2.heap.size (r - 1).toNat cur fe hh
     rw [← h0] at hcell hfr
     refine ad3 Z (ub Z Z Z Z Z hcell hfr) ?_
     have st:=(World.ownsRow.stored (w:=w3) own (r - 1).toNat (.int .i64 n)).1
     have f4:=Fr.setCell w3 ⟨w2.heap.size,(r - 1).toNat,none⟩ (.int .i64 n)
     have e4:Ext w1 (w3.setCell ⟨w2.heap.size,(r - 1).toNat,none⟩ (.int .i64 n)):=(e2.trans e3).trans' f4 (fun j hj h=>by have:=e2.size;simp at h;omega)
     change OW _ _ _ _ _ _ _ _ (w3.setCell ⟨w2.heap.size,0+(r - 1).toNat,none⟩ (.int .i64 n))
     rw [h0]
     generalize w3.setCell ⟨w2.heap.size,(r - 1).toNat,none⟩ (.int .i64 n)=w4 at *
     have hone:IL w4 (.slice (some ⟨w2.heap.size,0,none⟩) r.toNat r.toNat) (ag0 r n):=by
      have:=kd.sl st
      unfold IL VL ag0
      simp only [List.length_set,List.length_replicate,List.map_set,List.map_replicate]
      exact this
     refine on <| sr <| o_p Z Z Z <| o_p Z Z Z ?_
     refine ia Z (dm Z) Z ((ame (ha.ext (e1.trans e4)) hone hx (by simp [ag0];omega)).mono ?_)
     rintro _ w5 ⟨v,rfl,hM,hE⟩;refine ⟨_,rfl,?_⟩
     refine o_p Z Z Z <| dh <| bn <| dq <| eo Z Z ⟨v,rfl,?_,(e1.trans e4).trans hE⟩
     rw [afm,if_neg (by omega)]
     exact hM.weaken (e1.trans e4).size


instance:EqT Tryz.prog t_api_Dot:=⟨by kernel_rfl⟩
set_option maxRecDepth 100000 in
theorem yq (a b c d:Int) (w:World):(Op.equalIn 10000 t_api_Dot (nu a b) (nu c d)).run Tryz.prog w = .ok (decide (a=c∧b=d)) w:=by
 have hS:Tryz.prog.underlying t_api_Dot=some (.struct (Tryz.prog.fieldsOf t_api_Dot)):=by kernel_rfl
 have hp:Tryz.prog.stoodInHeld t_api_Dot=false:=by kernel_rfl
 have hf : ∃ f g : Field, (Tryz.prog.fieldsOf t_api_Dot).toList = [f, g] ∧ f.name ≠ "_" ∧ g.name ≠ "_" ∧ f.type = fe ∧ g.type = fe ∧ f.offset = 0 ∧ g.offset = 1 :=
  ⟨_,_,rfl,by decide,by decide,rfl,rfl,rfl,rfl⟩
 obtain ⟨f,g,h1,h2,h3,h4,h5,h6,h7⟩:=hf
 have ui:Tryz.prog.underlying fe=some (.int .i64):=by kernel_rfl
 rw [show (10000:Nat)=9998+1+1 from rfl,run_equalIn_struct w 9999 t_api_Dot _ _ hS hp,h1]
 have p0:∀ (x y:Int),(part fe #[.int .i64 x,.int .i64 y] 0).run Tryz.prog w = .ok (.int .i64 x) w:=fun x y=>by simp [part,isAgg,run_underlying ui]
 have p1:∀ (x y:Int),(part fe #[.int .i64 x,.int .i64 y] 1).run Tryz.prog w = .ok (.int .i64 y) w:=fun x y=>by simp [part,isAgg,run_underlying ui]
 have q:∀ x y:Int,(Op.equalIn 9999 fe (.int .i64 x) (.int .i64 y)).run Tryz.prog w = .ok (x == y) w:=fun x y=>run_equalIn_int w 9998 fe .i64 .i64 x y ui
 simp only [Op.eqFields,h2,h3,h4,h5,h6,h7,ne_eq,not_false_eq_true,if_true,Sem.run_bind,p0,p1,q,Result.andThen_ok]
 by_cases e1:a=c <;> by_cases e2:b=d <;> simp [e1,e2,p1,q]

def aob (a b:Int):Int:=if a<b then -1 else if b<a then 1 else 0
def ahz:List Int→List Int→Int
 | [], [] => 0
 | [], _ :: _ => -1
 | _ :: _, [] => 1
 | x :: xs, y :: ys => if aob x y ≠ 0 then aob x y else ahz xs ys

theorem aj2 (a:Int) (w:World):Calls Tryz.prog aih #[.int .i64 a] w fun e w'=>e = .returned (.bool false)∧w=w':=by
 refine aee Tryz.func237 Z Z <| sr <| o_p Z Z Z <| on <| sr <| o_p Z Z Z <| o_p Z Z Z <| o_p Z Z Z <| o_p Z Z Z <| on ?_
 exact dq (eo Z Z ⟨by simp,rfl⟩)

theorem aoc (a b:Int) (w:World):Calls Tryz.prog rt #[.int .i64 a,.int .i64 b] w fun e w'=>e = .returned (.int .i64 (aob a b))∧w=w':=by
 refine pz Tryz.func234 Z Z <| sr <| o_p Z Z Z <| on <| sr <| o_p Z Z Z <| ia Z (dm Z) Z <| (aj2 a w).mono ?_
 rintro _ w1 ⟨rfl,rfl⟩;refine ⟨_,rfl,?_⟩
 refine o_p Z Z Z <| on <| sr <| o_p Z Z Z <| ia Z (dm Z) Z <| (aj2 b w).mono ?_
 rintro _ w1 ⟨rfl,rfl⟩;refine ⟨_,rfl,?_⟩
 refine o_p Z Z Z <| on <| ss <| sr <| o_p Z Z Z <| on <| wg Z <| jg <| bn <| ss <| sr <| o_p Z Z Z <| on <| wg Z <| jg <| bn <| ss <| sr <| o_p Z Z Z <| o_p Z Z Z <| o_p Z Z Z <| on ?_
 refine qv Z (fun h1=>sr ?_) (fun h1=>jg (bn (ss (sr ?_))))
 ·refine o_p Z Z Z <| on ?_
  exact dq (eg (eo Z Z ⟨by simp [aob,h1],rfl⟩))
 ·refine o_p Z Z Z <| o_p Z Z Z <| o_p Z Z Z <| on ?_
  refine qv Z (fun h2=>sr ?_) (fun h2=>jg (bn (sr ?_)))
  ·refine o_p Z Z Z <| on ?_
   exact dq (eg (eo Z Z ⟨by simp [aob,h1,h2],rfl⟩))
  ·refine o_p Z Z Z <| on ?_
   exact dq (eo Z Z ⟨by simp [aob,h1,h2],rfl⟩)

theorem ag2 {va vb:Value} {xs ys:List Int} {w:World} (ha:IL w va xs) (hb:IL w vb ys) (hx:xs.length≤1048576) :
  Calls Tryz.prog m8 #[va,vb,.func (.func rt) ⟨[]⟩ ⟨[]⟩] w fun e w'=>e = .returned (.int .i64 (ahz xs ys))∧w=w':=by
 obtain ⟨A,c,rfl,hnc,hcm,hz,hcell⟩:=ha.op
 obtain ⟨A',c',rfl,hnc',hcm',hz',hcell'⟩:=hb.op
 refine ai0 Tryz.func233 Z Z <| sr <| o_p Z Z Z <| on <| ss <| sr <| o_p Z Z Z <| o_p Z Z Z <| o_p Z Z Z <| on ?_
 refine iq (vk (G:=Nat) (fun k=> [(0,.slice A xs.length c),(1,.slice A' ys.length c'),(2,.func (.func rt) ⟨[]⟩ ⟨[]⟩),(11,.slice A xs.length c),(12,.int .i64 xs.length),(13,.int .i64 (k:Int))])
  (fun k W=>w=W∧k≤xs.length∧k≤ys.length∧ahz xs ys=ahz (xs.drop k) (ys.drop k)) (fun k=>xs.length - k) ?_ ?_)
 ·exact ⟨0,⟨rfl,rfl,rfl,rfl,rfl,rfl,trivial⟩,rfl,Nat.zero_le _,Nat.zero_le _,by simp⟩
 rintro k W ⟨rfl,hk,hk',hJ⟩
 try dsimp only
 refine sr <| o_p Z Z Z <| on ?_
 refine dc (qv Z (fun h=> ?_) (fun h=> ?_))
 ·refine jg <| bn <| dc <| iq <| sr ?_
  obtain ⟨bk,off,rfl,hbk,hc⟩:=hcell k (by omega)
  have hck:=hc k (by omega)
  refine o_p Z Z Z <| aid k Z Z Z (by omega) (by omega) <| dr Z (bm Z Z Z hck) Z <| o_p Z Z Z <| o_p Z Z Z <| on <| ss <| sr <| o_p Z Z Z <| o_p Z Z Z <| o_p Z Z Z <| o_p Z Z Z <| on ?_
  refine qv Z (fun h1=> ?_) (fun h1=> ?_)
  ·refine sr <| o_p Z Z Z <| dh <| bn <| dq <| eg <| js <| eg <| t8 <| js <| eg <| eo Z Z ⟨?_,rfl⟩
   rw [hJ,List.drop_eq_getElem_cons (by omega),List.drop_eq_nil_of_le (show ys.length≤_ by omega)]
   rfl
  ·obtain ⟨bk',off',rfl,hbk',hc'⟩:=hcell' k (by omega)
   have hck':=hc' k (by omega)
   refine jg <| bn <| sr <| o_p Z Z Z <| o_p Z Z Z <| aid k Z Z Z (by omega) (by omega) <| dr Z (bm Z Z Z hck') Z <| o_p Z Z Z <| on <| sr <| o_p Z Z Z <| o_p Z Z Z <| o_p Z Z Z <| ia Z (dm Z) Z <| (aoc _ _ _).mono ?_
   rintro _ w1 ⟨rfl,rfl⟩;refine ⟨_,rfl,?_⟩
   refine o_p Z Z Z <| on <| sr <| o_p Z Z Z <| o_p Z Z Z <| on ?_
   have hstep:ahz xs ys=if aob xs[k] ys[k]≠0 then aob xs[k] ys[k] else ahz (xs.drop (k+1)) (ys.drop (k+1)):=by
    rw [hJ,List.drop_eq_getElem_cons (l:=xs) (by omega),List.drop_eq_getElem_cons (l:=ys) (by omega)]
    rfl
   refine act Z (fun h2=> ?_) (fun h2=> ?_)
   ·refine sr <| o_p Z Z Z <| o_p Z Z Z <| dh <| bn <| dq <| js <| eg <| t8 <| js <| eg <| eo Z Z ⟨?_,rfl⟩
    rw [hstep,if_pos (by simpa using h2)]
   ·refine jg <| kq <| bn <| bx ?_
    refine o_c Z Z Z (by unfold I64;omega) ?_
    refine o_p Z Z Z ?_
    refine (dh (p8 (k+1) ?_ ?_ ?_))
    ·exact ⟨rfl,rfl,rfl,rfl,rfl,rfl,trivial⟩
    ·exact ⟨rfl,by omega,by omega,by rw [hstep,if_neg (by simpa using h2)]⟩
    ·show xs.length - (k+1)<xs.length - k;omega
 ·refine re <| jr <| j9 <| jj <| bn <| ss <| sr ?_
  obtain rfl:k=xs.length:=by omega
  rw [List.drop_length] at hJ
  (iterate 5 refine o_p Z Z Z ?_)
  refine on ?_
  refine qv Z (fun h1=> ?_) (fun h1=> ?_)
  ·refine sr <| o_p Z Z Z <| dh <| bn <| dq <| eg <| eo Z Z ⟨?_,rfl⟩
   rw [hJ,List.drop_eq_getElem_cons (l:=ys) (by omega)]
   rfl
  ·refine jg <| bn <| sr <| o_p Z Z Z <| dh <| bn <| dq <| eo Z Z ⟨?_,rfl⟩
   rw [hJ,List.drop_eq_nil_of_le (show ys.length≤_ by omega)]
   rfl

def aa0 (ra na:Int) (xs:List Int) (rb nb:Int) (ys:List Int):Bool :=
 decide (jo xs<jo ys∨(jo xs=jo ys∧(ra<rb∨(ra=rb∧na<nb))))
theorem ay5 {ra na rb nb:Int} {xs ys:List Int} (h:¬ (ra=rb∧na=nb)):decide (ahz [jo xs,ra,na] [jo ys,rb,nb]<0)=aa0 ra na xs rb nb ys:=by
 unfold aa0
 rw [decide_eq_decide]
 simp only [ahz,aob]
 split <;> (try split) <;> (try split) <;> omega

theorem aod {va vb:Value} {xs ys:List Int} {ra na rb nb:Int} {w:World} (ha:IL w va xs) (hb:IL w vb ys) (hx:xs.length≤1048576) (hy:ys.length≤1048576) :
  Calls Tryz.prog ab5 #[nu ra na,va,nu rb nb,vb] w fun e w'=>e = .returned (.bool (aa0 ra na xs rb nb ys))∧Ext w w':=by
 refine ar4 Tryz.func197 Z Z <| dc <| bx <| dr Z (n7 Z) Z ?_
 have B:Blk (w.alloc (.cells (nu ra na).cells t_api_Dot)) w.heap.size t_api_Dot [.int .i64 ra,.int .i64 na]:=Blk.new w _ _
 have e1:Ext w (w.alloc (.cells (nu ra na).cells t_api_Dot)):=Fr.alloc _ _
 generalize w.alloc (.cells (nu ra na).cells t_api_Dot)=w1 at *
 refine dr Z (n7 Z) Z ?_
 have B':Blk (w1.alloc (.cells (nu rb nb).cells t_api_Dot)) w1.heap.size t_api_Dot [.int .i64 rb,.int .i64 nb]:=Blk.new w1 _ _
 have e2:Ext w1 (w1.alloc (.cells (nu rb nb).cells t_api_Dot)):=Fr.alloc _ _
 generalize w1.alloc (.cells (nu rb nb).cells t_api_Dot)=w2 at *
 refine o_p Z Z Z <| on <| sr <| o_p Z Z Z <| ia Z (dm Z) Z <| (acd (ha.ext (e1.trans e2)) hx).mono ?_
 rintro _ w3 ⟨rfl,e3⟩;refine ⟨_,rfl,?_⟩
 refine o_p Z Z Z <| ia Z (dm Z) Z <| (acd (hb.ext ((e1.trans e2).trans e3)) hy).mono ?_
 rintro _ w4 ⟨rfl,e4⟩;refine ⟨_,rfl,?_⟩
 have e34:=e3.trans e4
 have C:=(B.ext e2).ext e34
 have C':=B'.ext e34
 have eE:=(e1.trans e2).trans e34
 refine o_p Z Z Z <| o_p Z Z Z <| dh <| bn <| dc <| iq <| dc <| bx <| o_p Z Z Z <| o_p Z Z Z <| o_p Z Z Z <| o_p Z Z Z ?_
 refine (dh (bn (act Z (fun h1=> ?_) (fun h1=> ?_))))
 ·refine sr <| o_p Z Z Z <| o_p Z Z Z <| o_p Z Z Z <| o_p Z Z Z <| dh <| bn <| dq <| js <| eg <| eo Z Z ⟨?_,eE⟩
  have h1:¬ jo xs=jo ys:=by simpa using h1
  simp [aa0,h1]
 ·have h1:jo xs=jo ys:=by simpa using h1
  refine sr <| o_p Z Z Z <| dr Z (bm Z Z Z (C.cell 0)) Z <| o_p Z Z Z <| dr Z (bm Z Z Z (C'.cell 0)) Z <| o_p Z Z Z <| o_p Z Z Z ?_
  refine (dh (bn (act Z (fun h2=> ?_) (fun h2=> ?_))))
  ·refine sr <| o_p Z Z Z <| dr Z (bm Z Z Z (C.cell 0)) Z <| o_p Z Z Z <| dr Z (bm Z Z Z (C'.cell 0)) Z <| o_p Z Z Z <| o_p Z Z Z <| dh <| bn <| dq <| js <| eg <| eo Z Z ⟨?_,eE⟩
   have h2:¬ ra=rb:=by simpa using h2
   simp [aa0,h1,h2]
  ·refine jg <| kq <| bn <| dc <| bx <| o_p Z Z Z <| dr Z (bm Z Z Z (C.cell 1)) Z <| o_p Z Z Z <| dr Z (bm Z Z Z (C'.cell 1)) Z <| o_p Z Z Z <| o_p Z Z Z <| dh <| bn <| dq <| eo Z Z ⟨?_,eE⟩
   have h2:ra=rb:=by simpa using h2
   simp [aa0,h1,h2]

theorem a47 (a b c:Value) (ha:a.cells.toList = [a]) (hb:b.cells.toList = [b]) (hc:c.cells.toList = [c]) (z:List Value) (hz:z.length=3*1):wn (fun k=>some (k*1,1)) z [(0,a),(1,b),(2,c)]=some [a,b,c]:=by
 match z,hz with
 | [x, y, u], _ =>
  have e:∀ v:Value,v.cells.toList = [v]→v.cells.size=1:=fun v h=>by rw [← Array.length_toList,h];rfl
  simp [wn,spl,ha,hb,hc,e a ha,e b hb,e c hc]

theorem awj {va vb:Value} {xs ys:List Int} {ra na rb nb:Int} {w:World} (ha:IL w va xs) (hb:IL w vb ys) :
  Calls Tryz.prog alo #[nu ra na,va,nu rb nb,vb] w fun e w'=>e = .returned (.bool (aa0 ra na xs rb nb ys))∧Ext w w':=by
 refine ar4 Tryz.func231 Z Z <| dc <| bx <| dr Z (n7 Z) Z ?_
 have B:Blk (w.alloc (.cells (nu ra na).cells t_api_Dot)) w.heap.size t_api_Dot [.int .i64 ra,.int .i64 na]:=Blk.new w _ _
 have e1:Ext w (w.alloc (.cells (nu ra na).cells t_api_Dot)):=Fr.alloc _ _
 generalize w.alloc (.cells (nu ra na).cells t_api_Dot)=w1 at *
 refine dr Z (n7 Z) Z ?_
 have B':Blk (w1.alloc (.cells (nu rb nb).cells t_api_Dot)) w1.heap.size t_api_Dot [.int .i64 rb,.int .i64 nb]:=Blk.new w1 _ _
 have e2:Ext w1 (w1.alloc (.cells (nu rb nb).cells t_api_Dot)):=Fr.alloc _ _
 generalize w1.alloc (.cells (nu rb nb).cells t_api_Dot)=w2 at *
 have B:=B.ext e2
 have e2:=e1.trans e2
 refine o_p Z Z Z <| dh <| bn <| dc <| m0 flo (fun W'=>Ext w2 W') (by decide) (Fr.drew _) <| d_p Z Z Z Z <| lm Z Z (dm Z) Z <| (x7 (ha.ext (e2.trans (Fr.drew _)))).mono ?_
 rintro _ w3 ⟨rfl,e3⟩;refine ⟨_,rfl,(Fr.drew _).trans e3,?_⟩
 refine d_p Z Z Z Z <| gt Z Z (fun W' hW'=>bm Z Z Z (hW'.cell (B.cell 0))) Z <| d_p Z Z Z Z <| gt Z Z (fun W' hW'=>bm Z Z Z (hW'.cell (B.cell 1))) Z <| abc Z Z (jk (vs:= [(0,.int .i64 (jo xs)),(1,.int .i64 ra),(2,.int .i64 na)]) (cells:= [.int .i64 (jo xs),.int .i64 ra,.int .i64 na]) Z Z Z Z (by decide) (a47 _ _ _ Z Z Z)) (((Fr.drew _).trans e3).trans (Fr.alloc _ _)) Z ?_
 have D:=Blk.new w3 fe [.int .i64 (jo xs),.int .i64 ra,.int .i64 na]
 have e4:Ext w2 (w3.alloc (.cells [.int .i64 (jo xs),.int .i64 ra,.int .i64 na].toArray fe)):=((Fr.drew _).trans e3).trans (Fr.alloc _ _)
 generalize hw4:w3.alloc (.cells [.int .i64 (jo xs),.int .i64 ra,.int .i64 na].toArray fe)=w4 at *
 refine d_p Z Z Z Z <| lu <| bn <| dc <| m0 flo (fun W'=>Ext w4 W') (by decide) (Fr.drew _) <| d_p Z Z Z Z <| lm Z Z (dm Z) Z <| (x7 (hb.ext ((e2.trans e4).trans (Fr.drew _)))).mono ?_
 rintro _ w5 ⟨rfl,e5⟩;refine ⟨_,rfl,(Fr.drew _).trans e5,?_⟩
 refine d_p Z Z Z Z <| gt Z Z (fun W' hW'=>bm Z Z Z (hW'.cell (e4.cell (B'.cell 0)))) Z <| d_p Z Z Z Z <| gt Z Z (fun W' hW'=>bm Z Z Z (hW'.cell (e4.cell (B'.cell 1)))) Z <| abc Z Z (jk (vs:= [(0,.int .i64 (jo ys)),(1,.int .i64 rb),(2,.int .i64 nb)]) (cells:= [.int .i64 (jo ys),.int .i64 rb,.int .i64 nb]) Z Z Z Z (by decide) (a47 _ _ _ Z Z Z)) (((Fr.drew _).trans e5).trans (Fr.alloc _ _)) Z ?_
 have D':=Blk.new w5 fe [.int .i64 (jo ys),.int .i64 rb,.int .i64 nb]
 have e6:Ext w4 (w5.alloc (.cells [.int .i64 (jo ys),.int .i64 rb,.int .i64 nb].toArray fe)):=((Fr.drew _).trans e5).trans (Fr.alloc _ _)
 generalize hw6:w5.alloc (.cells [.int .i64 (jo ys),.int .i64 rb,.int .i64 nb].toArray fe)=w6 at *
 refine d_p Z Z Z Z ?_
 have eE:=(e2.trans e4).trans e6
 have C:=(B.ext e4).ext e6
 have C':=(B'.ext e4).ext e6
 have x1:IL w6 (.slice (some ⟨w3.heap.size,0,none⟩) 3 3) [jo xs,ra,na]:=(D.ext e6).sl (n:=3) (sz:=1) Z (by decide)
 have x2:IL w6 (.slice (some ⟨w5.heap.size,0,none⟩) 3 3) [jo ys,rb,nb]:=D'.sl (n:=3) (sz:=1) Z (by decide)
 refine lu <| bn <| dc <| bx ?_
 refine dr Z (cn (cs:= [.int .i64 ra,.int .i64 na]) Z Z Z Z (fun j _=>by rw [Nat.zero_add];exact C.cell j)) Z ?_
 refine dr Z (cn (cs:= [.int .i64 rb,.int .i64 nb]) Z Z Z Z (fun j _=>by rw [Nat.zero_add];exact C'.cell j)) Z ?_
 refine yv Z (abe Z Z (yq ra na rb nb)) Z <| o_p Z Z Z ?_
 refine zy 28 Z (fun h1=> ?_) (fun h1=> ?_)
 ·have h1:¬ (ra=rb∧na=nb):=by simpa only [Bool.not_eq_true',decide_eq_false_iff_not] using h1
  refine o_p Z Z Z <| o_p Z Z Z ?_
  refine ia Z (dm Z) Z ((ag2 x1 x2 (by simp)).mono ?_)
  rintro _ w7 ⟨rfl,rfl⟩;refine ⟨_,rfl,?_⟩
  refine o_p Z Z Z <| o_p Z Z Z <| o_p Z Z Z ?_
  rw [ay5 h1]
  refine zy 34 Z (fun h2=> ?_) (fun h2=> ?_)
  ·(iterate 10 refine qh Z Z ?_)
   refine o_p Z Z Z <| o_p Z Z Z <| dh <| bn <| dq <| eo Z Z ⟨?_,eE⟩
   rw [h2]
  ·refine dr Z (cn (cs:= [.int .i64 ra,.int .i64 na]) Z Z Z Z (fun j _=>by rw [Nat.zero_add];exact C.cell j)) Z ?_
   refine dr Z (cn (cs:= [.int .i64 rb,.int .i64 nb]) Z Z Z Z (fun j _=>by rw [Nat.zero_add];exact C'.cell j)) Z ?_
   refine yv Z (aaa Z Z (yq ra na rb nb)) Z <| o_p Z Z Z ?_
   rw [decide_eq_false h1]
   (iterate 5 refine qh Z Z ?_)
   refine o_p Z Z Z <| o_p Z Z Z <| o_p Z Z Z <| dh <| bn <| dq <| eo Z Z ⟨?_,eE⟩
   rw [h2]
 ·have h1:ra=rb∧na=nb:=by simpa using h1
  refine qh Z Z <| qh Z Z <| qh Z Z <| qh Z Z <| o_p Z Z Z <| o_p Z Z Z ?_
  refine dr Z (cn (cs:= [.int .i64 ra,.int .i64 na]) Z Z Z Z (fun j _=>by rw [Nat.zero_add];exact C.cell j)) Z ?_
  refine dr Z (cn (cs:= [.int .i64 rb,.int .i64 nb]) Z Z Z Z (fun j _=>by rw [Nat.zero_add];exact C'.cell j)) Z ?_
  refine yv Z (aaa Z Z (yq ra na rb nb)) Z <| o_p Z Z Z ?_
  rw [decide_eq_true h1]
  refine o_p Z Z Z <| ia Z (dm Z) Z <| (x7 (ha.ext eE)).mono ?_
  rintro _ w7 ⟨rfl,e7⟩;refine ⟨_,rfl,?_⟩
  refine o_p Z Z Z <| ia Z (dm Z) Z <| (x7 (hb.ext (eE.trans e7))).mono ?_
  rintro _ w8 ⟨rfl,e8⟩;refine ⟨_,rfl,?_⟩
  refine o_p Z Z Z <| o_p Z Z Z <| o_p Z Z Z <| o_p Z Z Z <| dh <| bn <| dq <| eo Z Z ⟨?_,(eE.trans e7).trans e8⟩
  simp [aa0,h1]

end Go.Proofs.YtdmfcnjgdicncaaGreat
