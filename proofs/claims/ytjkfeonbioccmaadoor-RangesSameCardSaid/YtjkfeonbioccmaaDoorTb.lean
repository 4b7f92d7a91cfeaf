/- Closed facts of the program's tables, one each, by program (gentb.py). -/
import Derived.Test.YtjkfeonbioccmaaDoorMa
import Derived.Test.YtjkfeonbioccmaaDoorProg
import Derived.KernelRfl
namespace Go.Proofs.YtjkfeonbioccmaaDoor.Tb
open Go Go.Sx
set_option maxRecDepth 100000
theorem cl3 : callable Tryd.prog 3 = true := by kernel_rfl
theorem cl4 : callable Tryd.prog 4 = true := by kernel_rfl
theorem cl5 : callable Tryd.prog 5 = true := by kernel_rfl
theorem cl6 : callable Tryd.prog 6 = true := by kernel_rfl
theorem cl7 : callable Tryd.prog 7 = true := by kernel_rfl
theorem cl8 : callable Tryd.prog 8 = true := by kernel_rfl
theorem cl9 : callable Tryd.prog 9 = true := by kernel_rfl
theorem cl10 : callable Tryd.prog 10 = true := by kernel_rfl
theorem cl11 : callable Tryd.prog 11 = true := by kernel_rfl
theorem cl12 : callable Tryd.prog 12 = true := by kernel_rfl
theorem cl13 : callable Tryd.prog 13 = true := by kernel_rfl
theorem cl14 : callable Tryd.prog 14 = true := by kernel_rfl
theorem cl15 : callable Tryd.prog 15 = true := by kernel_rfl
theorem cl16 : callable Tryd.prog 16 = true := by kernel_rfl
theorem cl17 : callable Tryd.prog 17 = true := by kernel_rfl
theorem cl18 : callable Tryd.prog 18 = true := by kernel_rfl
theorem cl19 : callable Tryd.prog 19 = true := by kernel_rfl
theorem cl20 : callable Tryd.prog 20 = true := by kernel_rfl
theorem cl21 : callable Tryd.prog 21 = true := by kernel_rfl
theorem cl22 : callable Tryd.prog 22 = true := by kernel_rfl
theorem cl23 : callable Tryd.prog 23 = true := by kernel_rfl
theorem cl24 : callable Tryd.prog 24 = true := by kernel_rfl
theorem cl25 : callable Tryd.prog 25 = true := by kernel_rfl
theorem cl26 : callable Tryd.prog 26 = true := by kernel_rfl
theorem cl27 : callable Tryd.prog 27 = true := by kernel_rfl
theorem cl28 : callable Tryd.prog 28 = true := by kernel_rfl
theorem cl29 : callable Tryd.prog 29 = true := by kernel_rfl
theorem cl30 : callable Tryd.prog 30 = true := by kernel_rfl
theorem cl31 : callable Tryd.prog 31 = true := by kernel_rfl
theorem cl32 : callable Tryd.prog 32 = true := by kernel_rfl
theorem cl33 : callable Tryd.prog 33 = true := by kernel_rfl
theorem cl34 : callable Tryd.prog 34 = true := by kernel_rfl
theorem cl35 : callable Tryd.prog 35 = true := by kernel_rfl
theorem cl36 : callable Tryd.prog 36 = true := by kernel_rfl
theorem cl37 : callable Tryd.prog 37 = true := by kernel_rfl
theorem cl38 : callable Tryd.prog 38 = true := by kernel_rfl
theorem cl39 : callable Tryd.prog 39 = true := by kernel_rfl
theorem cl40 : callable Tryd.prog 40 = true := by kernel_rfl
theorem cl41 : callable Tryd.prog 41 = true := by kernel_rfl
theorem cl42 : callable Tryd.prog 42 = true := by kernel_rfl
theorem cl43 : callable Tryd.prog 43 = true := by kernel_rfl
theorem cl44 : callable Tryd.prog 44 = true := by kernel_rfl
theorem cl45 : callable Tryd.prog 45 = true := by kernel_rfl
theorem cl46 : callable Tryd.prog 46 = true := by kernel_rfl
theorem cl47 : callable Tryd.prog 47 = true := by kernel_rfl
theorem cl48 : callable Tryd.prog 48 = true := by kernel_rfl
theorem cl49 : callable Tryd.prog 49 = true := by kernel_rfl
theorem cl50 : callable Tryd.prog 50 = true := by kernel_rfl
theorem cl51 : callable Tryd.prog 51 = true := by kernel_rfl
theorem cl52 : callable Tryd.prog 52 = true := by kernel_rfl
theorem cl53 : callable Tryd.prog 53 = true := by kernel_rfl
theorem cl54 : callable Tryd.prog 54 = true := by kernel_rfl
theorem cl55 : callable Tryd.prog 55 = true := by kernel_rfl
theorem cl56 : callable Tryd.prog 56 = true := by kernel_rfl
theorem cl57 : callable Tryd.prog 57 = true := by kernel_rfl
theorem cl58 : callable Tryd.prog 58 = true := by kernel_rfl
theorem cl59 : callable Tryd.prog 59 = true := by kernel_rfl
theorem cl60 : callable Tryd.prog 60 = true := by kernel_rfl
theorem cl61 : callable Tryd.prog 61 = true := by kernel_rfl
theorem cl62 : callable Tryd.prog 62 = true := by kernel_rfl
theorem cl63 : callable Tryd.prog 63 = true := by kernel_rfl
theorem cl64 : callable Tryd.prog 64 = true := by kernel_rfl
theorem cl65 : callable Tryd.prog 65 = true := by kernel_rfl
theorem cl66 : callable Tryd.prog 66 = true := by kernel_rfl
theorem cl67 : callable Tryd.prog 67 = true := by kernel_rfl
theorem cl68 : callable Tryd.prog 68 = true := by kernel_rfl
theorem cl69 : callable Tryd.prog 69 = true := by kernel_rfl
theorem cl70 : callable Tryd.prog 70 = true := by kernel_rfl
theorem cl71 : callable Tryd.prog 71 = true := by kernel_rfl
theorem cl72 : callable Tryd.prog 72 = true := by kernel_rfl
theorem cl73 : callable Tryd.prog 73 = true := by kernel_rfl
theorem cl74 : callable Tryd.prog 74 = true := by kernel_rfl
theorem cl75 : callable Tryd.prog 75 = true := by kernel_rfl
theorem cl76 : callable Tryd.prog 76 = true := by kernel_rfl
theorem cl77 : callable Tryd.prog 77 = true := by kernel_rfl
theorem cl78 : callable Tryd.prog 78 = true := by kernel_rfl
theorem cl79 : callable Tryd.prog 79 = true := by kernel_rfl
theorem cl80 : callable Tryd.prog 80 = true := by kernel_rfl
theorem cl81 : callable Tryd.prog 81 = true := by kernel_rfl
theorem cl82 : callable Tryd.prog 82 = true := by kernel_rfl
theorem cl83 : callable Tryd.prog 83 = true := by kernel_rfl
theorem cl84 : callable Tryd.prog 84 = true := by kernel_rfl
theorem cl85 : callable Tryd.prog 85 = true := by kernel_rfl
theorem cl86 : callable Tryd.prog 86 = true := by kernel_rfl
theorem cl87 : callable Tryd.prog 87 = true := by kernel_rfl
theorem cl88 : callable Tryd.prog 88 = true := by kernel_rfl
theorem cl89 : callable Tryd.prog 89 = true := by kernel_rfl
theorem cl90 : callable Tryd.prog 90 = true := by kernel_rfl
theorem cl91 : callable Tryd.prog 91 = true := by kernel_rfl
theorem cl92 : callable Tryd.prog 92 = true := by kernel_rfl
theorem cl93 : callable Tryd.prog 93 = true := by kernel_rfl
theorem cl94 : callable Tryd.prog 94 = true := by kernel_rfl
theorem cl95 : callable Tryd.prog 95 = true := by kernel_rfl
theorem cl96 : callable Tryd.prog 96 = true := by kernel_rfl
theorem cl97 : callable Tryd.prog 97 = true := by kernel_rfl
theorem cl98 : callable Tryd.prog 98 = true := by kernel_rfl
theorem cl99 : callable Tryd.prog 99 = true := by kernel_rfl
theorem cl100 : callable Tryd.prog 100 = true := by kernel_rfl
theorem cl101 : callable Tryd.prog 101 = true := by kernel_rfl
theorem cl102 : callable Tryd.prog 102 = true := by kernel_rfl
theorem cl103 : callable Tryd.prog 103 = true := by kernel_rfl
theorem cl104 : callable Tryd.prog 104 = true := by kernel_rfl
theorem cl105 : callable Tryd.prog 105 = true := by kernel_rfl
theorem cl106 : callable Tryd.prog 106 = true := by kernel_rfl
theorem cl107 : callable Tryd.prog 107 = true := by kernel_rfl
theorem cl108 : callable Tryd.prog 108 = true := by kernel_rfl
theorem cl109 : callable Tryd.prog 109 = true := by kernel_rfl
theorem cl110 : callable Tryd.prog 110 = true := by kernel_rfl
theorem cl111 : callable Tryd.prog 111 = true := by kernel_rfl
theorem cl112 : callable Tryd.prog 112 = true := by kernel_rfl
theorem cl113 : callable Tryd.prog 113 = true := by kernel_rfl
theorem cl114 : callable Tryd.prog 114 = true := by kernel_rfl
theorem cl115 : callable Tryd.prog 115 = true := by kernel_rfl
theorem cl116 : callable Tryd.prog 116 = true := by kernel_rfl
theorem cl117 : callable Tryd.prog 117 = true := by kernel_rfl
theorem cl118 : callable Tryd.prog 118 = true := by kernel_rfl
theorem cl119 : callable Tryd.prog 119 = true := by kernel_rfl
theorem cl120 : callable Tryd.prog 120 = true := by kernel_rfl
theorem cl121 : callable Tryd.prog 121 = true := by kernel_rfl
theorem cl122 : callable Tryd.prog 122 = true := by kernel_rfl
theorem cl123 : callable Tryd.prog 123 = true := by kernel_rfl
theorem cl124 : callable Tryd.prog 124 = true := by kernel_rfl
theorem cl125 : callable Tryd.prog 125 = true := by kernel_rfl
theorem cl126 : callable Tryd.prog 126 = true := by kernel_rfl
theorem cl127 : callable Tryd.prog 127 = true := by kernel_rfl
theorem cl128 : callable Tryd.prog 128 = true := by kernel_rfl
theorem cl129 : callable Tryd.prog 129 = true := by kernel_rfl
theorem cl130 : callable Tryd.prog 130 = true := by kernel_rfl
theorem cl131 : callable Tryd.prog 131 = true := by kernel_rfl
theorem cl132 : callable Tryd.prog 132 = true := by kernel_rfl
theorem cl133 : callable Tryd.prog 133 = true := by kernel_rfl
theorem cl134 : callable Tryd.prog 134 = true := by kernel_rfl
theorem cl135 : callable Tryd.prog 135 = true := by kernel_rfl
theorem cl136 : callable Tryd.prog 136 = true := by kernel_rfl
theorem cl137 : callable Tryd.prog 137 = true := by kernel_rfl
theorem cl138 : callable Tryd.prog 138 = true := by kernel_rfl
theorem cl139 : callable Tryd.prog 139 = true := by kernel_rfl
theorem cl140 : callable Tryd.prog 140 = true := by kernel_rfl
theorem cl141 : callable Tryd.prog 141 = true := by kernel_rfl
theorem cl142 : callable Tryd.prog 142 = true := by kernel_rfl
theorem cl143 : callable Tryd.prog 143 = true := by kernel_rfl
theorem cl144 : callable Tryd.prog 144 = true := by kernel_rfl
theorem cl145 : callable Tryd.prog 145 = true := by kernel_rfl
theorem cl146 : callable Tryd.prog 146 = true := by kernel_rfl
theorem cl147 : callable Tryd.prog 147 = true := by kernel_rfl
theorem cl148 : callable Tryd.prog 148 = true := by kernel_rfl
theorem cl149 : callable Tryd.prog 149 = true := by kernel_rfl
theorem cl150 : callable Tryd.prog 150 = true := by kernel_rfl
theorem cl151 : callable Tryd.prog 151 = true := by kernel_rfl
theorem cl152 : callable Tryd.prog 152 = true := by kernel_rfl
theorem cl153 : callable Tryd.prog 153 = true := by kernel_rfl
theorem cl154 : callable Tryd.prog 154 = true := by kernel_rfl
theorem cl155 : callable Tryd.prog 155 = true := by kernel_rfl
theorem cl156 : callable Tryd.prog 156 = true := by kernel_rfl
theorem cl157 : callable Tryd.prog 157 = true := by kernel_rfl
theorem cl158 : callable Tryd.prog 158 = true := by kernel_rfl
theorem cl159 : callable Tryd.prog 159 = true := by kernel_rfl
theorem cl160 : callable Tryd.prog 160 = true := by kernel_rfl
theorem cl161 : callable Tryd.prog 161 = true := by kernel_rfl
theorem cl162 : callable Tryd.prog 162 = true := by kernel_rfl
theorem cl163 : callable Tryd.prog 163 = true := by kernel_rfl
theorem cl164 : callable Tryd.prog 164 = true := by kernel_rfl
theorem cl165 : callable Tryd.prog 165 = true := by kernel_rfl
theorem cl167 : callable Tryd.prog 167 = true := by kernel_rfl
theorem cl168 : callable Tryd.prog 168 = true := by kernel_rfl
theorem cl169 : callable Tryd.prog 169 = true := by kernel_rfl
theorem cl170 : callable Tryd.prog 170 = true := by kernel_rfl
theorem cl171 : callable Tryd.prog 171 = true := by kernel_rfl
theorem cl172 : callable Tryd.prog 172 = true := by kernel_rfl
theorem cl173 : callable Tryd.prog 173 = true := by kernel_rfl
theorem cl174 : callable Tryd.prog 174 = true := by kernel_rfl
theorem cl175 : callable Tryd.prog 175 = true := by kernel_rfl
theorem cl176 : callable Tryd.prog 176 = true := by kernel_rfl
theorem cl177 : callable Tryd.prog 177 = true := by kernel_rfl
theorem cl178 : callable Tryd.prog 178 = true := by kernel_rfl
theorem cl179 : callable Tryd.prog 179 = true := by kernel_rfl
theorem cl180 : callable Tryd.prog 180 = true := by kernel_rfl
theorem cl181 : callable Tryd.prog 181 = true := by kernel_rfl
theorem cl182 : callable Tryd.prog 182 = true := by kernel_rfl
theorem cl183 : callable Tryd.prog 183 = true := by kernel_rfl
theorem cl184 : callable Tryd.prog 184 = true := by kernel_rfl
theorem cl185 : callable Tryd.prog 185 = true := by kernel_rfl
theorem cl186 : callable Tryd.prog 186 = true := by kernel_rfl
theorem cl187 : callable Tryd.prog 187 = true := by kernel_rfl
theorem cl188 : callable Tryd.prog 188 = true := by kernel_rfl
theorem cl189 : callable Tryd.prog 189 = true := by kernel_rfl
theorem cl190 : callable Tryd.prog 190 = true := by kernel_rfl
theorem cl191 : callable Tryd.prog 191 = true := by kernel_rfl
theorem cl192 : callable Tryd.prog 192 = true := by kernel_rfl
theorem cl193 : callable Tryd.prog 193 = true := by kernel_rfl
theorem cl194 : callable Tryd.prog 194 = true := by kernel_rfl
theorem cl195 : callable Tryd.prog 195 = true := by kernel_rfl
theorem cl196 : callable Tryd.prog 196 = true := by kernel_rfl
theorem cl197 : callable Tryd.prog 197 = true := by kernel_rfl
theorem cl198 : callable Tryd.prog 198 = true := by kernel_rfl
theorem cl199 : callable Tryd.prog 199 = true := by kernel_rfl
theorem cl200 : callable Tryd.prog 200 = true := by kernel_rfl
theorem cl201 : callable Tryd.prog 201 = true := by kernel_rfl
theorem cl202 : callable Tryd.prog 202 = true := by kernel_rfl
theorem cl203 : callable Tryd.prog 203 = true := by kernel_rfl
theorem cl204 : callable Tryd.prog 204 = true := by kernel_rfl
theorem cl205 : callable Tryd.prog 205 = true := by kernel_rfl
theorem cl206 : callable Tryd.prog 206 = true := by kernel_rfl
theorem cl207 : callable Tryd.prog 207 = true := by kernel_rfl
theorem cl208 : callable Tryd.prog 208 = true := by kernel_rfl
theorem cl209 : callable Tryd.prog 209 = true := by kernel_rfl
theorem cl210 : callable Tryd.prog 210 = true := by kernel_rfl
theorem cl211 : callable Tryd.prog 211 = true := by kernel_rfl
theorem cl212 : callable Tryd.prog 212 = true := by kernel_rfl
theorem cl213 : callable Tryd.prog 213 = true := by kernel_rfl
theorem cl214 : callable Tryd.prog 214 = true := by kernel_rfl
theorem cl215 : callable Tryd.prog 215 = true := by kernel_rfl
theorem cl216 : callable Tryd.prog 216 = true := by kernel_rfl
theorem cl217 : callable Tryd.prog 217 = true := by kernel_rfl
theorem cl218 : callable Tryd.prog 218 = true := by kernel_rfl
theorem cl219 : callable Tryd.prog 219 = true := by kernel_rfl
theorem cl220 : callable Tryd.prog 220 = true := by kernel_rfl
theorem cl221 : callable Tryd.prog 221 = true := by kernel_rfl
theorem cl222 : callable Tryd.prog 222 = true := by kernel_rfl
theorem cl223 : callable Tryd.prog 223 = true := by kernel_rfl
theorem cl224 : callable Tryd.prog 224 = true := by kernel_rfl
theorem cl225 : callable Tryd.prog 225 = true := by kernel_rfl
theorem cl226 : callable Tryd.prog 226 = true := by kernel_rfl
theorem cl251 : callable Tryd.prog 251 = true := by kernel_rfl
theorem ag1 : aggO Tryd.prog 1 = some false := by kernel_rfl
theorem sz1 : szO Tryd.prog 1 = some 1 := by kernel_rfl
theorem zz1 : zO Tryd.prog 1 = some (.nilFunc) := by kernel_rfl
theorem by1 : byO Tryd.prog 1 = some 8 := by kernel_rfl
theorem ag2 : aggO Tryd.prog 2 = some false := by kernel_rfl
theorem sz2 : szO Tryd.prog 2 = some 1 := by kernel_rfl
theorem zz2 : zO Tryd.prog 2 = some (.int .i64 0) := by kernel_rfl
theorem by2 : byO Tryd.prog 2 = some 8 := by kernel_rfl
theorem ag3 : aggO Tryd.prog 3 = some false := by kernel_rfl
theorem sz3 : szO Tryd.prog 3 = some 1 := by kernel_rfl
theorem zz3 : zO Tryd.prog 3 = some (.int .i64 0) := by kernel_rfl
theorem by3 : byO Tryd.prog 3 = some 8 := by kernel_rfl
theorem ag4 : aggO Tryd.prog 4 = some false := by kernel_rfl
theorem sz4 : szO Tryd.prog 4 = some 1 := by kernel_rfl
theorem zz4 : zO Tryd.prog 4 = some (.bool false) := by kernel_rfl
theorem by4 : byO Tryd.prog 4 = some 1 := by kernel_rfl
theorem ag5 : aggO Tryd.prog 5 = some false := by kernel_rfl
theorem sz5 : szO Tryd.prog 5 = some 1 := by kernel_rfl
theorem zz5 : zO Tryd.prog 5 = some (.int .u8 0) := by kernel_rfl
theorem by5 : byO Tryd.prog 5 = some 1 := by kernel_rfl
theorem ag9 : aggO Tryd.prog 9 = some false := by kernel_rfl
theorem sz9 : szO Tryd.prog 9 = some 1 := by kernel_rfl
theorem zz9 : zO Tryd.prog 9 = some (.string ⟨#[]⟩) := by kernel_rfl
theorem by9 : byO Tryd.prog 9 = some 16 := by kernel_rfl
theorem ag12 : aggO Tryd.prog 12 = some false := by kernel_rfl
theorem sz12 : szO Tryd.prog 12 = some 1 := by kernel_rfl
theorem zz12 : zO Tryd.prog 12 = some (.int .u64 0) := by kernel_rfl
theorem by12 : byO Tryd.prog 12 = some 8 := by kernel_rfl
theorem ag17 : aggO Tryd.prog 17 = some false := by kernel_rfl
theorem sz17 : szO Tryd.prog 17 = some 1 := by kernel_rfl
theorem zz17 : zO Tryd.prog 17 = some (.pointer none) := by kernel_rfl
theorem by17 : byO Tryd.prog 17 = some 8 := by kernel_rfl
theorem ag21 : aggO Tryd.prog 21 = some false := by kernel_rfl
theorem sz21 : szO Tryd.prog 21 = some 1 := by kernel_rfl
theorem zz21 : zO Tryd.prog 21 = some (.int .i32 0) := by kernel_rfl
theorem by21 : byO Tryd.prog 21 = some 4 := by kernel_rfl
theorem ag22 : aggO Tryd.prog 22 = some false := by kernel_rfl
theorem sz22 : szO Tryd.prog 22 = some 1 := by kernel_rfl
theorem zz22 : zO Tryd.prog 22 = some (.slice none 0 0) := by kernel_rfl
theorem by22 : byO Tryd.prog 22 = some 24 := by kernel_rfl
theorem ag23 : aggO Tryd.prog 23 = some false := by kernel_rfl
theorem sz23 : szO Tryd.prog 23 = some 1 := by kernel_rfl
theorem zz23 : zO Tryd.prog 23 = some (.nilFunc) := by kernel_rfl
theorem by23 : byO Tryd.prog 23 = some 8 := by kernel_rfl
theorem ag24 : aggO Tryd.prog 24 = some false := by kernel_rfl
theorem sz24 : szO Tryd.prog 24 = some 1 := by kernel_rfl
theorem zz24 : zO Tryd.prog 24 = some (.int .i64 0) := by kernel_rfl
theorem by24 : byO Tryd.prog 24 = some 8 := by kernel_rfl
theorem ag26 : aggO Tryd.prog 26 = some false := by kernel_rfl
theorem sz26 : szO Tryd.prog 26 = some 1 := by kernel_rfl
theorem zz26 : zO Tryd.prog 26 = some (.nilFunc) := by kernel_rfl
theorem by26 : byO Tryd.prog 26 = some 8 := by kernel_rfl
theorem ag27 : aggO Tryd.prog 27 = some false := by kernel_rfl
theorem sz27 : szO Tryd.prog 27 = some 1 := by kernel_rfl
theorem zz27 : zO Tryd.prog 27 = some (.nilFunc) := by kernel_rfl
theorem by27 : byO Tryd.prog 27 = some 8 := by kernel_rfl
theorem ag28 : aggO Tryd.prog 28 = some false := by kernel_rfl
theorem sz28 : szO Tryd.prog 28 = some 1 := by kernel_rfl
theorem zz28 : zO Tryd.prog 28 = some (.nilFunc) := by kernel_rfl
theorem by28 : byO Tryd.prog 28 = some 8 := by kernel_rfl
theorem ag29 : aggO Tryd.prog 29 = some true := by kernel_rfl
theorem sz29 : szO Tryd.prog 29 = some 32 := by kernel_rfl
theorem zz29 : zO Tryd.prog 29 = some (hv H.zero) := by kernel_rfl
theorem eg29 : Tryd.prog.eqGuardType Tryd.prog.depth 29 = false := by kernel_rfl
theorem by29 : byO Tryd.prog 29 = some 32 := by kernel_rfl
theorem ag30 : aggO Tryd.prog 30 = some true := by kernel_rfl
theorem sz30 : szO Tryd.prog 30 = some 32 := by kernel_rfl
theorem zz30 : zO Tryd.prog 30 = some (hv H.zero) := by kernel_rfl
theorem eg30 : Tryd.prog.eqGuardType Tryd.prog.depth 30 = false := by kernel_rfl
theorem by30 : byO Tryd.prog 30 = some 32 := by kernel_rfl
theorem ag31 : aggO Tryd.prog 31 = some true := by kernel_rfl
theorem sz31 : szO Tryd.prog 31 = some 66 := by kernel_rfl
theorem zz31 : zO Tryd.prog 31 = some (.agg #[.int .i64 0, .int .i64 0, .int .u8 0, .int .u8 0, .int .u8 0, .int .u8 0, .int .u8 0, .int .u8 0, .int .u8 0, .int .u8 0, .int .u8 0, .int .u8 0, .int .u8 0, .int .u8 0, .int .u8 0, .int .u8 0, .int .u8 0, .int .u8 0, .int .u8 0, .int .u8 0, .int .u8 0, .int .u8 0, .int .u8 0, .int .u8 0, .int .u8 0, .int .u8 0, .int .u8 0, .int .u8 0, .int .u8 0, .int .u8 0, .int .u8 0, .int .u8 0, .int .u8 0, .int .u8 0, .int .u8 0, .int .u8 0, .int .u8 0, .int .u8 0, .int .u8 0, .int .u8 0, .int .u8 0, .int .u8 0, .int .u8 0, .int .u8 0, .int .u8 0, .int .u8 0, .int .u8 0, .int .u8 0, .int .u8 0, .int .u8 0, .int .u8 0, .int .u8 0, .int .u8 0, .int .u8 0, .int .u8 0, .int .u8 0, .int .u8 0, .int .u8 0, .int .u8 0, .int .u8 0, .int .u8 0, .int .u8 0, .int .u8 0, .int .u8 0, .int .u8 0, .int .u8 0]) := by kernel_rfl
theorem by31 : byO Tryd.prog 31 = some 80 := by kernel_rfl
theorem fo31_0 : fO Tryd.prog 31 0 = some 0 := by kernel_rfl
theorem fo31_1 : fO Tryd.prog 31 1 = some 1 := by kernel_rfl
theorem fo31_2 : fO Tryd.prog 31 2 = some 2 := by kernel_rfl
theorem fo31_3 : fO Tryd.prog 31 3 = some 34 := by kernel_rfl
theorem ag32 : aggO Tryd.prog 32 = some true := by kernel_rfl
theorem sz32 : szO Tryd.prog 32 = some 66 := by kernel_rfl
theorem zz32 : zO Tryd.prog 32 = some (.agg #[.int .i64 0, .int .i64 0, .int .u8 0, .int .u8 0, .int .u8 0, .int .u8 0, .int .u8 0, .int .u8 0, .int .u8 0, .int .u8 0, .int .u8 0, .int .u8 0, .int .u8 0, .int .u8 0, .int .u8 0, .int .u8 0, .int .u8 0, .int .u8 0, .int .u8 0, .int .u8 0, .int .u8 0, .int .u8 0, .int .u8 0, .int .u8 0, .int .u8 0, .int .u8 0, .int .u8 0, .int .u8 0, .int .u8 0, .int .u8 0, .int .u8 0, .int .u8 0, .int .u8 0, .int .u8 0, .int .u8 0, .int .u8 0, .int .u8 0, .int .u8 0, .int .u8 0, .int .u8 0, .int .u8 0, .int .u8 0, .int .u8 0, .int .u8 0, .int .u8 0, .int .u8 0, .int .u8 0, .int .u8 0, .int .u8 0, .int .u8 0, .int .u8 0, .int .u8 0, .int .u8 0, .int .u8 0, .int .u8 0, .int .u8 0, .int .u8 0, .int .u8 0, .int .u8 0, .int .u8 0, .int .u8 0, .int .u8 0, .int .u8 0, .int .u8 0, .int .u8 0, .int .u8 0]) := by kernel_rfl
theorem by32 : byO Tryd.prog 32 = some 80 := by kernel_rfl
theorem fo32_0 : fO Tryd.prog 32 0 = some 0 := by kernel_rfl
theorem fo32_1 : fO Tryd.prog 32 1 = some 1 := by kernel_rfl
theorem fo32_2 : fO Tryd.prog 32 2 = some 2 := by kernel_rfl
theorem fo32_3 : fO Tryd.prog 32 3 = some 34 := by kernel_rfl
theorem ag33 : aggO Tryd.prog 33 = some false := by kernel_rfl
theorem sz33 : szO Tryd.prog 33 = some 1 := by kernel_rfl
theorem zz33 : zO Tryd.prog 33 = some (.nilFunc) := by kernel_rfl
theorem by33 : byO Tryd.prog 33 = some 8 := by kernel_rfl
theorem ag34 : aggO Tryd.prog 34 = some false := by kernel_rfl
theorem sz34 : szO Tryd.prog 34 = some 1 := by kernel_rfl
theorem zz34 : zO Tryd.prog 34 = some (.nilFunc) := by kernel_rfl
theorem by34 : byO Tryd.prog 34 = some 8 := by kernel_rfl
theorem ag35 : aggO Tryd.prog 35 = some false := by kernel_rfl
theorem sz35 : szO Tryd.prog 35 = some 1 := by kernel_rfl
theorem zz35 : zO Tryd.prog 35 = some (.nilFunc) := by kernel_rfl
theorem by35 : byO Tryd.prog 35 = some 8 := by kernel_rfl
theorem ag36 : aggO Tryd.prog 36 = some false := by kernel_rfl
theorem sz36 : szO Tryd.prog 36 = some 1 := by kernel_rfl
theorem zz36 : zO Tryd.prog 36 = some (.nilFunc) := by kernel_rfl
theorem by36 : byO Tryd.prog 36 = some 8 := by kernel_rfl
theorem ag37 : aggO Tryd.prog 37 = some false := by kernel_rfl
theorem sz37 : szO Tryd.prog 37 = some 1 := by kernel_rfl
theorem zz37 : zO Tryd.prog 37 = some (.nilFunc) := by kernel_rfl
theorem by37 : byO Tryd.prog 37 = some 8 := by kernel_rfl
theorem ag38 : aggO Tryd.prog 38 = some true := by kernel_rfl
theorem sz38 : szO Tryd.prog 38 = some 2 := by kernel_rfl
theorem zz38 : zO Tryd.prog 38 = some (.agg #[.int .i64 0, .int .i64 0]) := by kernel_rfl
theorem by38 : byO Tryd.prog 38 = some 16 := by kernel_rfl
theorem ag39 : aggO Tryd.prog 39 = some false := by kernel_rfl
theorem sz39 : szO Tryd.prog 39 = some 1 := by kernel_rfl
theorem zz39 : zO Tryd.prog 39 = some (.pointer none) := by kernel_rfl
theorem by39 : byO Tryd.prog 39 = some 8 := by kernel_rfl
theorem ag41 : aggO Tryd.prog 41 = some false := by kernel_rfl
theorem sz41 : szO Tryd.prog 41 = some 1 := by kernel_rfl
theorem zz41 : zO Tryd.prog 41 = some (.nilFunc) := by kernel_rfl
theorem by41 : byO Tryd.prog 41 = some 8 := by kernel_rfl
theorem ag43 : aggO Tryd.prog 43 = some false := by kernel_rfl
theorem sz43 : szO Tryd.prog 43 = some 1 := by kernel_rfl
theorem zz43 : zO Tryd.prog 43 = some (.nilFunc) := by kernel_rfl
theorem by43 : byO Tryd.prog 43 = some 8 := by kernel_rfl
theorem ag44 : aggO Tryd.prog 44 = some false := by kernel_rfl
theorem sz44 : szO Tryd.prog 44 = some 1 := by kernel_rfl
theorem zz44 : zO Tryd.prog 44 = some (.nilFunc) := by kernel_rfl
theorem by44 : byO Tryd.prog 44 = some 8 := by kernel_rfl
theorem ag46 : aggO Tryd.prog 46 = some false := by kernel_rfl
theorem sz46 : szO Tryd.prog 46 = some 1 := by kernel_rfl
theorem zz46 : zO Tryd.prog 46 = some (.nilFunc) := by kernel_rfl
theorem by46 : byO Tryd.prog 46 = some 8 := by kernel_rfl
theorem ag47 : aggO Tryd.prog 47 = some false := by kernel_rfl
theorem sz47 : szO Tryd.prog 47 = some 1 := by kernel_rfl
theorem zz47 : zO Tryd.prog 47 = some (.nilFunc) := by kernel_rfl
theorem by47 : byO Tryd.prog 47 = some 8 := by kernel_rfl
theorem ag48 : aggO Tryd.prog 48 = some false := by kernel_rfl
theorem sz48 : szO Tryd.prog 48 = some 1 := by kernel_rfl
theorem zz48 : zO Tryd.prog 48 = some (.nilFunc) := by kernel_rfl
theorem by48 : byO Tryd.prog 48 = some 8 := by kernel_rfl
theorem ag49 : aggO Tryd.prog 49 = some false := by kernel_rfl
theorem sz49 : szO Tryd.prog 49 = some 1 := by kernel_rfl
theorem zz49 : zO Tryd.prog 49 = some (.nilFunc) := by kernel_rfl
theorem by49 : byO Tryd.prog 49 = some 8 := by kernel_rfl
theorem ag50 : aggO Tryd.prog 50 = some false := by kernel_rfl
theorem sz50 : szO Tryd.prog 50 = some 1 := by kernel_rfl
theorem zz50 : zO Tryd.prog 50 = some (.nilFunc) := by kernel_rfl
theorem by50 : byO Tryd.prog 50 = some 8 := by kernel_rfl
theorem ag51 : aggO Tryd.prog 51 = some false := by kernel_rfl
theorem sz51 : szO Tryd.prog 51 = some 1 := by kernel_rfl
theorem zz51 : zO Tryd.prog 51 = some (.nilFunc) := by kernel_rfl
theorem by51 : byO Tryd.prog 51 = some 8 := by kernel_rfl
theorem ag52 : aggO Tryd.prog 52 = some false := by kernel_rfl
theorem sz52 : szO Tryd.prog 52 = some 1 := by kernel_rfl
theorem zz52 : zO Tryd.prog 52 = some (.nilFunc) := by kernel_rfl
theorem by52 : byO Tryd.prog 52 = some 8 := by kernel_rfl
theorem ag53 : aggO Tryd.prog 53 = some false := by kernel_rfl
theorem sz53 : szO Tryd.prog 53 = some 1 := by kernel_rfl
theorem zz53 : zO Tryd.prog 53 = some (.nilFunc) := by kernel_rfl
theorem by53 : byO Tryd.prog 53 = some 8 := by kernel_rfl
theorem ag54 : aggO Tryd.prog 54 = some false := by kernel_rfl
theorem sz54 : szO Tryd.prog 54 = some 1 := by kernel_rfl
theorem zz54 : zO Tryd.prog 54 = some (.nilFunc) := by kernel_rfl
theorem by54 : byO Tryd.prog 54 = some 8 := by kernel_rfl
theorem ag55 : aggO Tryd.prog 55 = some false := by kernel_rfl
theorem sz55 : szO Tryd.prog 55 = some 1 := by kernel_rfl
theorem zz55 : zO Tryd.prog 55 = some (.map none) := by kernel_rfl
theorem by55 : byO Tryd.prog 55 = some 8 := by kernel_rfl
theorem ag56 : aggO Tryd.prog 56 = some true := by kernel_rfl
theorem sz56 : szO Tryd.prog 56 = some 2 := by kernel_rfl
theorem zz56 : zO Tryd.prog 56 = some (.agg #[.map none, .int .i64 0]) := by kernel_rfl
theorem by56 : byO Tryd.prog 56 = some 16 := by kernel_rfl
theorem fo56_0 : fO Tryd.prog 56 0 = some 0 := by kernel_rfl
theorem fo56_1 : fO Tryd.prog 56 1 = some 1 := by kernel_rfl
theorem ag57 : aggO Tryd.prog 57 = some true := by kernel_rfl
theorem sz57 : szO Tryd.prog 57 = some 2 := by kernel_rfl
theorem zz57 : zO Tryd.prog 57 = some (.agg #[.map none, .int .i64 0]) := by kernel_rfl
theorem by57 : byO Tryd.prog 57 = some 16 := by kernel_rfl
theorem fo57_0 : fO Tryd.prog 57 0 = some 0 := by kernel_rfl
theorem fo57_1 : fO Tryd.prog 57 1 = some 1 := by kernel_rfl
theorem ag58 : aggO Tryd.prog 58 = some false := by kernel_rfl
theorem sz58 : szO Tryd.prog 58 = some 1 := by kernel_rfl
theorem zz58 : zO Tryd.prog 58 = some (.nilFunc) := by kernel_rfl
theorem by58 : byO Tryd.prog 58 = some 8 := by kernel_rfl
theorem ag59 : aggO Tryd.prog 59 = some false := by kernel_rfl
theorem sz59 : szO Tryd.prog 59 = some 1 := by kernel_rfl
theorem zz59 : zO Tryd.prog 59 = some (.slice none 0 0) := by kernel_rfl
theorem by59 : byO Tryd.prog 59 = some 24 := by kernel_rfl
theorem ag60 : aggO Tryd.prog 60 = some false := by kernel_rfl
theorem sz60 : szO Tryd.prog 60 = some 1 := by kernel_rfl
theorem zz60 : zO Tryd.prog 60 = some (.nilFunc) := by kernel_rfl
theorem by60 : byO Tryd.prog 60 = some 8 := by kernel_rfl
theorem ag62 : aggO Tryd.prog 62 = some false := by kernel_rfl
theorem sz62 : szO Tryd.prog 62 = some 1 := by kernel_rfl
theorem zz62 : zO Tryd.prog 62 = some (.nilFunc) := by kernel_rfl
theorem by62 : byO Tryd.prog 62 = some 8 := by kernel_rfl
theorem ag63 : aggO Tryd.prog 63 = some false := by kernel_rfl
theorem sz63 : szO Tryd.prog 63 = some 1 := by kernel_rfl
theorem zz63 : zO Tryd.prog 63 = some (.nilFunc) := by kernel_rfl
theorem by63 : byO Tryd.prog 63 = some 8 := by kernel_rfl
theorem ag64 : aggO Tryd.prog 64 = some false := by kernel_rfl
theorem sz64 : szO Tryd.prog 64 = some 1 := by kernel_rfl
theorem zz64 : zO Tryd.prog 64 = some (.nilFunc) := by kernel_rfl
theorem by64 : byO Tryd.prog 64 = some 8 := by kernel_rfl
theorem ag65 : aggO Tryd.prog 65 = some false := by kernel_rfl
theorem sz65 : szO Tryd.prog 65 = some 1 := by kernel_rfl
theorem zz65 : zO Tryd.prog 65 = some (.pointer none) := by kernel_rfl
theorem by65 : byO Tryd.prog 65 = some 8 := by kernel_rfl
theorem ag66 : aggO Tryd.prog 66 = some false := by kernel_rfl
theorem sz66 : szO Tryd.prog 66 = some 1 := by kernel_rfl
theorem zz66 : zO Tryd.prog 66 = some (.nilFunc) := by kernel_rfl
theorem by66 : byO Tryd.prog 66 = some 8 := by kernel_rfl
theorem ag67 : aggO Tryd.prog 67 = some false := by kernel_rfl
theorem sz67 : szO Tryd.prog 67 = some 1 := by kernel_rfl
theorem zz67 : zO Tryd.prog 67 = some (.nilFunc) := by kernel_rfl
theorem by67 : byO Tryd.prog 67 = some 8 := by kernel_rfl
theorem ag68 : aggO Tryd.prog 68 = some true := by kernel_rfl
theorem sz68 : szO Tryd.prog 68 = some 33 := by kernel_rfl
theorem zz68 : zO Tryd.prog 68 = some (.agg #[.int .i64 0, .int .u8 0, .int .u8 0, .int .u8 0, .int .u8 0, .int .u8 0, .int .u8 0, .int .u8 0, .int .u8 0, .int .u8 0, .int .u8 0, .int .u8 0, .int .u8 0, .int .u8 0, .int .u8 0, .int .u8 0, .int .u8 0, .int .u8 0, .int .u8 0, .int .u8 0, .int .u8 0, .int .u8 0, .int .u8 0, .int .u8 0, .int .u8 0, .int .u8 0, .int .u8 0, .int .u8 0, .int .u8 0, .int .u8 0, .int .u8 0, .int .u8 0, .int .u8 0]) := by kernel_rfl
theorem by68 : byO Tryd.prog 68 = some 40 := by kernel_rfl
theorem fo68_0 : fO Tryd.prog 68 0 = some 0 := by kernel_rfl
theorem fo68_1 : fO Tryd.prog 68 1 = some 1 := by kernel_rfl
theorem ag69 : aggO Tryd.prog 69 = some true := by kernel_rfl
theorem sz69 : szO Tryd.prog 69 = some 33 := by kernel_rfl
theorem zz69 : zO Tryd.prog 69 = some (.agg #[.int .i64 0, .int .u8 0, .int .u8 0, .int .u8 0, .int .u8 0, .int .u8 0, .int .u8 0, .int .u8 0, .int .u8 0, .int .u8 0, .int .u8 0, .int .u8 0, .int .u8 0, .int .u8 0, .int .u8 0, .int .u8 0, .int .u8 0, .int .u8 0, .int .u8 0, .int .u8 0, .int .u8 0, .int .u8 0, .int .u8 0, .int .u8 0, .int .u8 0, .int .u8 0, .int .u8 0, .int .u8 0, .int .u8 0, .int .u8 0, .int .u8 0, .int .u8 0, .int .u8 0]) := by kernel_rfl
theorem by69 : byO Tryd.prog 69 = some 40 := by kernel_rfl
theorem fo69_0 : fO Tryd.prog 69 0 = some 0 := by kernel_rfl
theorem fo69_1 : fO Tryd.prog 69 1 = some 1 := by kernel_rfl
theorem ag70 : aggO Tryd.prog 70 = some true := by kernel_rfl
theorem sz70 : szO Tryd.prog 70 = some 3 := by kernel_rfl
theorem zz70 : zO Tryd.prog 70 = some (.agg #[.int .i64 0, .string ⟨#[]⟩, .slice none 0 0]) := by kernel_rfl
theorem by70 : byO Tryd.prog 70 = some 48 := by kernel_rfl
theorem fo70_0 : fO Tryd.prog 70 0 = some 0 := by kernel_rfl
theorem fo70_1 : fO Tryd.prog 70 1 = some 1 := by kernel_rfl
theorem fo70_2 : fO Tryd.prog 70 2 = some 2 := by kernel_rfl
theorem ag71 : aggO Tryd.prog 71 = some true := by kernel_rfl
theorem sz71 : szO Tryd.prog 71 = some 3 := by kernel_rfl
theorem zz71 : zO Tryd.prog 71 = some (.agg #[.int .i64 0, .string ⟨#[]⟩, .slice none 0 0]) := by kernel_rfl
theorem by71 : byO Tryd.prog 71 = some 48 := by kernel_rfl
theorem fo71_0 : fO Tryd.prog 71 0 = some 0 := by kernel_rfl
theorem fo71_1 : fO Tryd.prog 71 1 = some 1 := by kernel_rfl
theorem fo71_2 : fO Tryd.prog 71 2 = some 2 := by kernel_rfl
theorem ag72 : aggO Tryd.prog 72 = some true := by kernel_rfl
theorem sz72 : szO Tryd.prog 72 = some 36 := by kernel_rfl
theorem zz72 : zO Tryd.prog 72 = some (.agg #[.int .i64 0, .int .u8 0, .int .u8 0, .int .u8 0, .int .u8 0, .int .u8 0, .int .u8 0, .int .u8 0, .int .u8 0, .int .u8 0, .int .u8 0, .int .u8 0, .int .u8 0, .int .u8 0, .int .u8 0, .int .u8 0, .int .u8 0, .int .u8 0, .int .u8 0, .int .u8 0, .int .u8 0, .int .u8 0, .int .u8 0, .int .u8 0, .int .u8 0, .int .u8 0, .int .u8 0, .int .u8 0, .int .u8 0, .int .u8 0, .int .u8 0, .int .u8 0, .int .u8 0, .int .i64 0, .string ⟨#[]⟩, .slice none 0 0]) := by kernel_rfl
theorem by72 : byO Tryd.prog 72 = some 88 := by kernel_rfl
theorem fo72_0 : fO Tryd.prog 72 0 = some 0 := by kernel_rfl
theorem fo72_1 : fO Tryd.prog 72 1 = some 33 := by kernel_rfl
theorem ag73 : aggO Tryd.prog 73 = some true := by kernel_rfl
theorem sz73 : szO Tryd.prog 73 = some 36 := by kernel_rfl
theorem zz73 : zO Tryd.prog 73 = some (.agg #[.int .i64 0, .int .u8 0, .int .u8 0, .int .u8 0, .int .u8 0, .int .u8 0, .int .u8 0, .int .u8 0, .int .u8 0, .int .u8 0, .int .u8 0, .int .u8 0, .int .u8 0, .int .u8 0, .int .u8 0, .int .u8 0, .int .u8 0, .int .u8 0, .int .u8 0, .int .u8 0, .int .u8 0, .int .u8 0, .int .u8 0, .int .u8 0, .int .u8 0, .int .u8 0, .int .u8 0, .int .u8 0, .int .u8 0, .int .u8 0, .int .u8 0, .int .u8 0, .int .u8 0, .int .i64 0, .string ⟨#[]⟩, .slice none 0 0]) := by kernel_rfl
theorem by73 : byO Tryd.prog 73 = some 88 := by kernel_rfl
theorem fo73_0 : fO Tryd.prog 73 0 = some 0 := by kernel_rfl
theorem fo73_1 : fO Tryd.prog 73 1 = some 33 := by kernel_rfl
theorem ag75 : aggO Tryd.prog 75 = some false := by kernel_rfl
theorem sz75 : szO Tryd.prog 75 = some 1 := by kernel_rfl
theorem zz75 : zO Tryd.prog 75 = some (.nilFunc) := by kernel_rfl
theorem by75 : byO Tryd.prog 75 = some 8 := by kernel_rfl
theorem ag76 : aggO Tryd.prog 76 = some true := by kernel_rfl
theorem sz76 : szO Tryd.prog 76 = some 3 := by kernel_rfl
theorem zz76 : zO Tryd.prog 76 = some (.agg #[.string ⟨#[]⟩, .string ⟨#[]⟩, .bool false]) := by kernel_rfl
theorem by76 : byO Tryd.prog 76 = some 40 := by kernel_rfl
theorem fo76_0 : fO Tryd.prog 76 0 = some 0 := by kernel_rfl
theorem fo76_1 : fO Tryd.prog 76 1 = some 1 := by kernel_rfl
theorem fo76_2 : fO Tryd.prog 76 2 = some 2 := by kernel_rfl
theorem ag77 : aggO Tryd.prog 77 = some true := by kernel_rfl
theorem sz77 : szO Tryd.prog 77 = some 3 := by kernel_rfl
theorem zz77 : zO Tryd.prog 77 = some (.agg #[.string ⟨#[]⟩, .string ⟨#[]⟩, .bool false]) := by kernel_rfl
theorem by77 : byO Tryd.prog 77 = some 40 := by kernel_rfl
theorem fo77_0 : fO Tryd.prog 77 0 = some 0 := by kernel_rfl
theorem fo77_1 : fO Tryd.prog 77 1 = some 1 := by kernel_rfl
theorem fo77_2 : fO Tryd.prog 77 2 = some 2 := by kernel_rfl
theorem ag79 : aggO Tryd.prog 79 = some false := by kernel_rfl
theorem sz79 : szO Tryd.prog 79 = some 1 := by kernel_rfl
theorem zz79 : zO Tryd.prog 79 = some (.nilFunc) := by kernel_rfl
theorem by79 : byO Tryd.prog 79 = some 8 := by kernel_rfl
theorem ag80 : aggO Tryd.prog 80 = some false := by kernel_rfl
theorem sz80 : szO Tryd.prog 80 = some 1 := by kernel_rfl
theorem zz80 : zO Tryd.prog 80 = some (.nilFunc) := by kernel_rfl
theorem by80 : byO Tryd.prog 80 = some 8 := by kernel_rfl
theorem ag81 : aggO Tryd.prog 81 = some false := by kernel_rfl
theorem sz81 : szO Tryd.prog 81 = some 1 := by kernel_rfl
theorem zz81 : zO Tryd.prog 81 = some (.slice none 0 0) := by kernel_rfl
theorem by81 : byO Tryd.prog 81 = some 24 := by kernel_rfl
theorem ag82 : aggO Tryd.prog 82 = some false := by kernel_rfl
theorem sz82 : szO Tryd.prog 82 = some 1 := by kernel_rfl
theorem zz82 : zO Tryd.prog 82 = some (.nilFunc) := by kernel_rfl
theorem by82 : byO Tryd.prog 82 = some 8 := by kernel_rfl
theorem ag83 : aggO Tryd.prog 83 = some false := by kernel_rfl
theorem sz83 : szO Tryd.prog 83 = some 1 := by kernel_rfl
theorem zz83 : zO Tryd.prog 83 = some (.nilFunc) := by kernel_rfl
theorem by83 : byO Tryd.prog 83 = some 8 := by kernel_rfl
theorem ag84 : aggO Tryd.prog 84 = some true := by kernel_rfl
theorem sz84 : szO Tryd.prog 84 = some 2 := by kernel_rfl
theorem zz84 : zO Tryd.prog 84 = some (.agg #[.int .u8 0, .int .u8 0]) := by kernel_rfl
theorem by84 : byO Tryd.prog 84 = some 2 := by kernel_rfl
theorem ag85 : aggO Tryd.prog 85 = some false := by kernel_rfl
theorem sz85 : szO Tryd.prog 85 = some 1 := by kernel_rfl
theorem zz85 : zO Tryd.prog 85 = some (.nilFunc) := by kernel_rfl
theorem by85 : byO Tryd.prog 85 = some 8 := by kernel_rfl
theorem ag86 : aggO Tryd.prog 86 = some true := by kernel_rfl
theorem sz86 : szO Tryd.prog 86 = some 2 := by kernel_rfl
theorem zz86 : zO Tryd.prog 86 = some (.agg #[.int .i64 0, .slice none 0 0]) := by kernel_rfl
theorem by86 : byO Tryd.prog 86 = some 32 := by kernel_rfl
theorem fo86_0 : fO Tryd.prog 86 0 = some 0 := by kernel_rfl
theorem fo86_1 : fO Tryd.prog 86 1 = some 1 := by kernel_rfl
theorem ag87 : aggO Tryd.prog 87 = some true := by kernel_rfl
theorem sz87 : szO Tryd.prog 87 = some 2 := by kernel_rfl
theorem zz87 : zO Tryd.prog 87 = some (.agg #[.int .i64 0, .slice none 0 0]) := by kernel_rfl
theorem by87 : byO Tryd.prog 87 = some 32 := by kernel_rfl
theorem fo87_0 : fO Tryd.prog 87 0 = some 0 := by kernel_rfl
theorem fo87_1 : fO Tryd.prog 87 1 = some 1 := by kernel_rfl
theorem ag88 : aggO Tryd.prog 88 = some false := by kernel_rfl
theorem sz88 : szO Tryd.prog 88 = some 1 := by kernel_rfl
theorem zz88 : zO Tryd.prog 88 = some (.nilFunc) := by kernel_rfl
theorem by88 : byO Tryd.prog 88 = some 8 := by kernel_rfl
theorem ag89 : aggO Tryd.prog 89 = some false := by kernel_rfl
theorem sz89 : szO Tryd.prog 89 = some 1 := by kernel_rfl
theorem zz89 : zO Tryd.prog 89 = some (.nilFunc) := by kernel_rfl
theorem by89 : byO Tryd.prog 89 = some 8 := by kernel_rfl
theorem ag91 : aggO Tryd.prog 91 = some false := by kernel_rfl
theorem sz91 : szO Tryd.prog 91 = some 1 := by kernel_rfl
theorem zz91 : zO Tryd.prog 91 = some (.nilFunc) := by kernel_rfl
theorem by91 : byO Tryd.prog 91 = some 8 := by kernel_rfl
theorem ag92 : aggO Tryd.prog 92 = some false := by kernel_rfl
theorem sz92 : szO Tryd.prog 92 = some 1 := by kernel_rfl
theorem zz92 : zO Tryd.prog 92 = some (.nilFunc) := by kernel_rfl
theorem by92 : byO Tryd.prog 92 = some 8 := by kernel_rfl
theorem ag93 : aggO Tryd.prog 93 = some false := by kernel_rfl
theorem sz93 : szO Tryd.prog 93 = some 1 := by kernel_rfl
theorem zz93 : zO Tryd.prog 93 = some (.nilFunc) := by kernel_rfl
theorem by93 : byO Tryd.prog 93 = some 8 := by kernel_rfl
theorem ag94 : aggO Tryd.prog 94 = some false := by kernel_rfl
theorem sz94 : szO Tryd.prog 94 = some 1 := by kernel_rfl
theorem zz94 : zO Tryd.prog 94 = some (.nilFunc) := by kernel_rfl
theorem by94 : byO Tryd.prog 94 = some 8 := by kernel_rfl
theorem ag95 : aggO Tryd.prog 95 = some false := by kernel_rfl
theorem sz95 : szO Tryd.prog 95 = some 1 := by kernel_rfl
theorem zz95 : zO Tryd.prog 95 = some (.nilFunc) := by kernel_rfl
theorem by95 : byO Tryd.prog 95 = some 8 := by kernel_rfl
theorem ag96 : aggO Tryd.prog 96 = some false := by kernel_rfl
theorem sz96 : szO Tryd.prog 96 = some 1 := by kernel_rfl
theorem zz96 : zO Tryd.prog 96 = some (.nilFunc) := by kernel_rfl
theorem by96 : byO Tryd.prog 96 = some 8 := by kernel_rfl
theorem ag97 : aggO Tryd.prog 97 = some false := by kernel_rfl
theorem sz97 : szO Tryd.prog 97 = some 1 := by kernel_rfl
theorem zz97 : zO Tryd.prog 97 = some (.nilFunc) := by kernel_rfl
theorem by97 : byO Tryd.prog 97 = some 8 := by kernel_rfl
theorem ag98 : aggO Tryd.prog 98 = some false := by kernel_rfl
theorem sz98 : szO Tryd.prog 98 = some 1 := by kernel_rfl
theorem zz98 : zO Tryd.prog 98 = some (.nilFunc) := by kernel_rfl
theorem by98 : byO Tryd.prog 98 = some 8 := by kernel_rfl
theorem ag99 : aggO Tryd.prog 99 = some false := by kernel_rfl
theorem sz99 : szO Tryd.prog 99 = some 1 := by kernel_rfl
theorem zz99 : zO Tryd.prog 99 = some (.nilFunc) := by kernel_rfl
theorem by99 : byO Tryd.prog 99 = some 8 := by kernel_rfl
theorem ag100 : aggO Tryd.prog 100 = some false := by kernel_rfl
theorem sz100 : szO Tryd.prog 100 = some 1 := by kernel_rfl
theorem zz100 : zO Tryd.prog 100 = some (.nilFunc) := by kernel_rfl
theorem by100 : byO Tryd.prog 100 = some 8 := by kernel_rfl
theorem ag101 : aggO Tryd.prog 101 = some false := by kernel_rfl
theorem sz101 : szO Tryd.prog 101 = some 1 := by kernel_rfl
theorem zz101 : zO Tryd.prog 101 = some (.nilFunc) := by kernel_rfl
theorem by101 : byO Tryd.prog 101 = some 8 := by kernel_rfl
theorem ag102 : aggO Tryd.prog 102 = some false := by kernel_rfl
theorem sz102 : szO Tryd.prog 102 = some 1 := by kernel_rfl
theorem zz102 : zO Tryd.prog 102 = some (.nilFunc) := by kernel_rfl
theorem by102 : byO Tryd.prog 102 = some 8 := by kernel_rfl
theorem ag103 : aggO Tryd.prog 103 = some true := by kernel_rfl
theorem sz103 : szO Tryd.prog 103 = some 4 := by kernel_rfl
theorem zz103 : zO Tryd.prog 103 = some (.agg #[.int .u8 0, .int .u8 0, .slice none 0 0, .slice none 0 0]) := by kernel_rfl
theorem by103 : byO Tryd.prog 103 = some 56 := by kernel_rfl
theorem fo103_0 : fO Tryd.prog 103 0 = some 0 := by kernel_rfl
theorem fo103_1 : fO Tryd.prog 103 1 = some 1 := by kernel_rfl
theorem fo103_2 : fO Tryd.prog 103 2 = some 2 := by kernel_rfl
theorem fo103_3 : fO Tryd.prog 103 3 = some 3 := by kernel_rfl
theorem ag104 : aggO Tryd.prog 104 = some true := by kernel_rfl
theorem sz104 : szO Tryd.prog 104 = some 4 := by kernel_rfl
theorem zz104 : zO Tryd.prog 104 = some (.agg #[.int .u8 0, .int .u8 0, .slice none 0 0, .slice none 0 0]) := by kernel_rfl
theorem by104 : byO Tryd.prog 104 = some 56 := by kernel_rfl
theorem fo104_0 : fO Tryd.prog 104 0 = some 0 := by kernel_rfl
theorem fo104_1 : fO Tryd.prog 104 1 = some 1 := by kernel_rfl
theorem fo104_2 : fO Tryd.prog 104 2 = some 2 := by kernel_rfl
theorem fo104_3 : fO Tryd.prog 104 3 = some 3 := by kernel_rfl
theorem ag105 : aggO Tryd.prog 105 = some false := by kernel_rfl
theorem sz105 : szO Tryd.prog 105 = some 1 := by kernel_rfl
theorem zz105 : zO Tryd.prog 105 = some (.nilFunc) := by kernel_rfl
theorem by105 : byO Tryd.prog 105 = some 8 := by kernel_rfl
theorem ag106 : aggO Tryd.prog 106 = some false := by kernel_rfl
theorem sz106 : szO Tryd.prog 106 = some 1 := by kernel_rfl
theorem zz106 : zO Tryd.prog 106 = some (.slice none 0 0) := by kernel_rfl
theorem by106 : byO Tryd.prog 106 = some 24 := by kernel_rfl
theorem ag107 : aggO Tryd.prog 107 = some false := by kernel_rfl
theorem sz107 : szO Tryd.prog 107 = some 1 := by kernel_rfl
theorem zz107 : zO Tryd.prog 107 = some (.pointer none) := by kernel_rfl
theorem by107 : byO Tryd.prog 107 = some 8 := by kernel_rfl
theorem ag109 : aggO Tryd.prog 109 = some false := by kernel_rfl
theorem sz109 : szO Tryd.prog 109 = some 1 := by kernel_rfl
theorem zz109 : zO Tryd.prog 109 = some (.nilFunc) := by kernel_rfl
theorem by109 : byO Tryd.prog 109 = some 8 := by kernel_rfl
theorem ag110 : aggO Tryd.prog 110 = some false := by kernel_rfl
theorem sz110 : szO Tryd.prog 110 = some 1 := by kernel_rfl
theorem zz110 : zO Tryd.prog 110 = some (.pointer none) := by kernel_rfl
theorem by110 : byO Tryd.prog 110 = some 8 := by kernel_rfl
theorem ag112 : aggO Tryd.prog 112 = some false := by kernel_rfl
theorem sz112 : szO Tryd.prog 112 = some 1 := by kernel_rfl
theorem zz112 : zO Tryd.prog 112 = some (.nilFunc) := by kernel_rfl
theorem by112 : byO Tryd.prog 112 = some 8 := by kernel_rfl
theorem ag113 : aggO Tryd.prog 113 = some false := by kernel_rfl
theorem sz113 : szO Tryd.prog 113 = some 1 := by kernel_rfl
theorem zz113 : zO Tryd.prog 113 = some (.nilFunc) := by kernel_rfl
theorem by113 : byO Tryd.prog 113 = some 8 := by kernel_rfl
theorem ag114 : aggO Tryd.prog 114 = some false := by kernel_rfl
theorem sz114 : szO Tryd.prog 114 = some 1 := by kernel_rfl
theorem zz114 : zO Tryd.prog 114 = some (.nilFunc) := by kernel_rfl
theorem by114 : byO Tryd.prog 114 = some 8 := by kernel_rfl
theorem ag115 : aggO Tryd.prog 115 = some false := by kernel_rfl
theorem sz115 : szO Tryd.prog 115 = some 1 := by kernel_rfl
theorem zz115 : zO Tryd.prog 115 = some (.nilFunc) := by kernel_rfl
theorem by115 : byO Tryd.prog 115 = some 8 := by kernel_rfl
theorem ag116 : aggO Tryd.prog 116 = some false := by kernel_rfl
theorem sz116 : szO Tryd.prog 116 = some 1 := by kernel_rfl
theorem zz116 : zO Tryd.prog 116 = some (.nilFunc) := by kernel_rfl
theorem by116 : byO Tryd.prog 116 = some 8 := by kernel_rfl
theorem ag117 : aggO Tryd.prog 117 = some false := by kernel_rfl
theorem sz117 : szO Tryd.prog 117 = some 1 := by kernel_rfl
theorem zz117 : zO Tryd.prog 117 = some (.nilFunc) := by kernel_rfl
theorem by117 : byO Tryd.prog 117 = some 8 := by kernel_rfl
theorem ag118 : aggO Tryd.prog 118 = some false := by kernel_rfl
theorem sz118 : szO Tryd.prog 118 = some 1 := by kernel_rfl
theorem zz118 : zO Tryd.prog 118 = some (.nilFunc) := by kernel_rfl
theorem by118 : byO Tryd.prog 118 = some 8 := by kernel_rfl
theorem ag120 : aggO Tryd.prog 120 = some false := by kernel_rfl
theorem sz120 : szO Tryd.prog 120 = some 1 := by kernel_rfl
theorem zz120 : zO Tryd.prog 120 = some (.nilFunc) := by kernel_rfl
theorem by120 : byO Tryd.prog 120 = some 8 := by kernel_rfl
theorem ag121 : aggO Tryd.prog 121 = some true := by kernel_rfl
theorem sz121 : szO Tryd.prog 121 = some 36 := by kernel_rfl
theorem zz121 : zO Tryd.prog 121 = some (.agg #[.int .i64 0, .int .u8 0, .int .u8 0, .int .u8 0, .int .u8 0, .int .u8 0, .int .u8 0, .int .u8 0, .int .u8 0, .int .u8 0, .int .u8 0, .int .u8 0, .int .u8 0, .int .u8 0, .int .u8 0, .int .u8 0, .int .u8 0, .int .u8 0, .int .u8 0, .int .u8 0, .int .u8 0, .int .u8 0, .int .u8 0, .int .u8 0, .int .u8 0, .int .u8 0, .int .u8 0, .int .u8 0, .int .u8 0, .int .u8 0, .int .u8 0, .int .u8 0, .int .u8 0, .int .i64 0, .slice none 0 0, .slice none 0 0]) := by kernel_rfl
theorem by121 : byO Tryd.prog 121 = some 96 := by kernel_rfl
theorem fo121_0 : fO Tryd.prog 121 0 = some 0 := by kernel_rfl
theorem fo121_1 : fO Tryd.prog 121 1 = some 33 := by kernel_rfl
theorem fo121_2 : fO Tryd.prog 121 2 = some 35 := by kernel_rfl
theorem ag122 : aggO Tryd.prog 122 = some true := by kernel_rfl
theorem sz122 : szO Tryd.prog 122 = some 36 := by kernel_rfl
theorem zz122 : zO Tryd.prog 122 = some (.agg #[.int .i64 0, .int .u8 0, .int .u8 0, .int .u8 0, .int .u8 0, .int .u8 0, .int .u8 0, .int .u8 0, .int .u8 0, .int .u8 0, .int .u8 0, .int .u8 0, .int .u8 0, .int .u8 0, .int .u8 0, .int .u8 0, .int .u8 0, .int .u8 0, .int .u8 0, .int .u8 0, .int .u8 0, .int .u8 0, .int .u8 0, .int .u8 0, .int .u8 0, .int .u8 0, .int .u8 0, .int .u8 0, .int .u8 0, .int .u8 0, .int .u8 0, .int .u8 0, .int .u8 0, .int .i64 0, .slice none 0 0, .slice none 0 0]) := by kernel_rfl
theorem by122 : byO Tryd.prog 122 = some 96 := by kernel_rfl
theorem fo122_0 : fO Tryd.prog 122 0 = some 0 := by kernel_rfl
theorem fo122_1 : fO Tryd.prog 122 1 = some 33 := by kernel_rfl
theorem fo122_2 : fO Tryd.prog 122 2 = some 35 := by kernel_rfl
theorem ag123 : aggO Tryd.prog 123 = some false := by kernel_rfl
theorem sz123 : szO Tryd.prog 123 = some 1 := by kernel_rfl
theorem zz123 : zO Tryd.prog 123 = some (.nilFunc) := by kernel_rfl
theorem by123 : byO Tryd.prog 123 = some 8 := by kernel_rfl
theorem ag124 : aggO Tryd.prog 124 = some true := by kernel_rfl
theorem sz124 : szO Tryd.prog 124 = some 4 := by kernel_rfl
theorem zz124 : zO Tryd.prog 124 = some (.agg #[.slice none 0 0, .slice none 0 0, .slice none 0 0, .slice none 0 0]) := by kernel_rfl
theorem by124 : byO Tryd.prog 124 = some 96 := by kernel_rfl
theorem fo124_0 : fO Tryd.prog 124 0 = some 0 := by kernel_rfl
theorem fo124_1 : fO Tryd.prog 124 1 = some 1 := by kernel_rfl
theorem fo124_2 : fO Tryd.prog 124 2 = some 2 := by kernel_rfl
theorem fo124_3 : fO Tryd.prog 124 3 = some 3 := by kernel_rfl
theorem ag125 : aggO Tryd.prog 125 = some true := by kernel_rfl
theorem sz125 : szO Tryd.prog 125 = some 4 := by kernel_rfl
theorem zz125 : zO Tryd.prog 125 = some (.agg #[.slice none 0 0, .slice none 0 0, .slice none 0 0, .slice none 0 0]) := by kernel_rfl
theorem by125 : byO Tryd.prog 125 = some 96 := by kernel_rfl
theorem fo125_0 : fO Tryd.prog 125 0 = some 0 := by kernel_rfl
theorem fo125_1 : fO Tryd.prog 125 1 = some 1 := by kernel_rfl
theorem fo125_2 : fO Tryd.prog 125 2 = some 2 := by kernel_rfl
theorem fo125_3 : fO Tryd.prog 125 3 = some 3 := by kernel_rfl
theorem ag126 : aggO Tryd.prog 126 = some true := by kernel_rfl
theorem sz126 : szO Tryd.prog 126 = some 5 := by kernel_rfl
theorem zz126 : zO Tryd.prog 126 = some (.agg #[.int .i64 0, .int .i64 0, .int .i64 0, .int .i64 0, .int .i64 0]) := by kernel_rfl
theorem by126 : byO Tryd.prog 126 = some 40 := by kernel_rfl
theorem fo126_0 : fO Tryd.prog 126 0 = some 0 := by kernel_rfl
theorem fo126_1 : fO Tryd.prog 126 1 = some 1 := by kernel_rfl
theorem fo126_2 : fO Tryd.prog 126 2 = some 2 := by kernel_rfl
theorem fo126_3 : fO Tryd.prog 126 3 = some 3 := by kernel_rfl
theorem fo126_4 : fO Tryd.prog 126 4 = some 4 := by kernel_rfl
theorem ag127 : aggO Tryd.prog 127 = some true := by kernel_rfl
theorem sz127 : szO Tryd.prog 127 = some 5 := by kernel_rfl
theorem zz127 : zO Tryd.prog 127 = some (.agg #[.int .i64 0, .int .i64 0, .int .i64 0, .int .i64 0, .int .i64 0]) := by kernel_rfl
theorem by127 : byO Tryd.prog 127 = some 40 := by kernel_rfl
theorem fo127_0 : fO Tryd.prog 127 0 = some 0 := by kernel_rfl
theorem fo127_1 : fO Tryd.prog 127 1 = some 1 := by kernel_rfl
theorem fo127_2 : fO Tryd.prog 127 2 = some 2 := by kernel_rfl
theorem fo127_3 : fO Tryd.prog 127 3 = some 3 := by kernel_rfl
theorem fo127_4 : fO Tryd.prog 127 4 = some 4 := by kernel_rfl
theorem ag128 : aggO Tryd.prog 128 = some false := by kernel_rfl
theorem sz128 : szO Tryd.prog 128 = some 1 := by kernel_rfl
theorem zz128 : zO Tryd.prog 128 = some (.nilFunc) := by kernel_rfl
theorem by128 : byO Tryd.prog 128 = some 8 := by kernel_rfl
theorem ag129 : aggO Tryd.prog 129 = some true := by kernel_rfl
theorem sz129 : szO Tryd.prog 129 = some 4 := by kernel_rfl
theorem zz129 : zO Tryd.prog 129 = some (.agg #[.slice none 0 0, .slice none 0 0, .slice none 0 0, .slice none 0 0]) := by kernel_rfl
theorem by129 : byO Tryd.prog 129 = some 96 := by kernel_rfl
theorem fo129_0 : fO Tryd.prog 129 0 = some 0 := by kernel_rfl
theorem fo129_1 : fO Tryd.prog 129 1 = some 1 := by kernel_rfl
theorem fo129_2 : fO Tryd.prog 129 2 = some 2 := by kernel_rfl
theorem fo129_3 : fO Tryd.prog 129 3 = some 3 := by kernel_rfl
theorem ag130 : aggO Tryd.prog 130 = some false := by kernel_rfl
theorem sz130 : szO Tryd.prog 130 = some 1 := by kernel_rfl
theorem zz130 : zO Tryd.prog 130 = some (.nilFunc) := by kernel_rfl
theorem by130 : byO Tryd.prog 130 = some 8 := by kernel_rfl
theorem ag131 : aggO Tryd.prog 131 = some false := by kernel_rfl
theorem sz131 : szO Tryd.prog 131 = some 1 := by kernel_rfl
theorem zz131 : zO Tryd.prog 131 = some (.nilFunc) := by kernel_rfl
theorem by131 : byO Tryd.prog 131 = some 8 := by kernel_rfl
theorem ag132 : aggO Tryd.prog 132 = some false := by kernel_rfl
theorem sz132 : szO Tryd.prog 132 = some 1 := by kernel_rfl
theorem zz132 : zO Tryd.prog 132 = some (.nilFunc) := by kernel_rfl
theorem by132 : byO Tryd.prog 132 = some 8 := by kernel_rfl
theorem ag133 : aggO Tryd.prog 133 = some true := by kernel_rfl
theorem sz133 : szO Tryd.prog 133 = some 6 := by kernel_rfl
theorem zz133 : zO Tryd.prog 133 = some (.agg #[.int .i64 0, .int .i64 0, .int .i64 0, .slice none 0 0, .slice none 0 0, .slice none 0 0]) := by kernel_rfl
theorem by133 : byO Tryd.prog 133 = some 96 := by kernel_rfl
theorem fo133_0 : fO Tryd.prog 133 0 = some 0 := by kernel_rfl
theorem fo133_1 : fO Tryd.prog 133 1 = some 1 := by kernel_rfl
theorem fo133_2 : fO Tryd.prog 133 2 = some 2 := by kernel_rfl
theorem fo133_3 : fO Tryd.prog 133 3 = some 3 := by kernel_rfl
theorem fo133_4 : fO Tryd.prog 133 4 = some 4 := by kernel_rfl
theorem fo133_5 : fO Tryd.prog 133 5 = some 5 := by kernel_rfl
theorem ag134 : aggO Tryd.prog 134 = some true := by kernel_rfl
theorem sz134 : szO Tryd.prog 134 = some 6 := by kernel_rfl
theorem zz134 : zO Tryd.prog 134 = some (.agg #[.int .i64 0, .int .i64 0, .int .i64 0, .slice none 0 0, .slice none 0 0, .slice none 0 0]) := by kernel_rfl
theorem by134 : byO Tryd.prog 134 = some 96 := by kernel_rfl
theorem fo134_0 : fO Tryd.prog 134 0 = some 0 := by kernel_rfl
theorem fo134_1 : fO Tryd.prog 134 1 = some 1 := by kernel_rfl
theorem fo134_2 : fO Tryd.prog 134 2 = some 2 := by kernel_rfl
theorem fo134_3 : fO Tryd.prog 134 3 = some 3 := by kernel_rfl
theorem fo134_4 : fO Tryd.prog 134 4 = some 4 := by kernel_rfl
theorem fo134_5 : fO Tryd.prog 134 5 = some 5 := by kernel_rfl
theorem ag135 : aggO Tryd.prog 135 = some false := by kernel_rfl
theorem sz135 : szO Tryd.prog 135 = some 1 := by kernel_rfl
theorem zz135 : zO Tryd.prog 135 = some (.nilFunc) := by kernel_rfl
theorem by135 : byO Tryd.prog 135 = some 8 := by kernel_rfl
theorem ag136 : aggO Tryd.prog 136 = some false := by kernel_rfl
theorem sz136 : szO Tryd.prog 136 = some 1 := by kernel_rfl
theorem zz136 : zO Tryd.prog 136 = some (.nilFunc) := by kernel_rfl
theorem by136 : byO Tryd.prog 136 = some 8 := by kernel_rfl
theorem ag137 : aggO Tryd.prog 137 = some false := by kernel_rfl
theorem sz137 : szO Tryd.prog 137 = some 1 := by kernel_rfl
theorem zz137 : zO Tryd.prog 137 = some (.nilFunc) := by kernel_rfl
theorem by137 : byO Tryd.prog 137 = some 8 := by kernel_rfl
theorem ag138 : aggO Tryd.prog 138 = some false := by kernel_rfl
theorem sz138 : szO Tryd.prog 138 = some 1 := by kernel_rfl
theorem zz138 : zO Tryd.prog 138 = some (.nilFunc) := by kernel_rfl
theorem by138 : byO Tryd.prog 138 = some 8 := by kernel_rfl
theorem ag139 : aggO Tryd.prog 139 = some false := by kernel_rfl
theorem sz139 : szO Tryd.prog 139 = some 1 := by kernel_rfl
theorem zz139 : zO Tryd.prog 139 = some (.nilFunc) := by kernel_rfl
theorem by139 : byO Tryd.prog 139 = some 8 := by kernel_rfl
theorem ag140 : aggO Tryd.prog 140 = some false := by kernel_rfl
theorem sz140 : szO Tryd.prog 140 = some 1 := by kernel_rfl
theorem zz140 : zO Tryd.prog 140 = some (.nilFunc) := by kernel_rfl
theorem by140 : byO Tryd.prog 140 = some 8 := by kernel_rfl
theorem ag141 : aggO Tryd.prog 141 = some false := by kernel_rfl
theorem sz141 : szO Tryd.prog 141 = some 1 := by kernel_rfl
theorem zz141 : zO Tryd.prog 141 = some (.nilFunc) := by kernel_rfl
theorem by141 : byO Tryd.prog 141 = some 8 := by kernel_rfl
theorem ag142 : aggO Tryd.prog 142 = some false := by kernel_rfl
theorem sz142 : szO Tryd.prog 142 = some 1 := by kernel_rfl
theorem zz142 : zO Tryd.prog 142 = some (.nilFunc) := by kernel_rfl
theorem by142 : byO Tryd.prog 142 = some 8 := by kernel_rfl
theorem ag143 : aggO Tryd.prog 143 = some false := by kernel_rfl
theorem sz143 : szO Tryd.prog 143 = some 1 := by kernel_rfl
theorem zz143 : zO Tryd.prog 143 = some (.nilFunc) := by kernel_rfl
theorem by143 : byO Tryd.prog 143 = some 8 := by kernel_rfl
theorem ag144 : aggO Tryd.prog 144 = some false := by kernel_rfl
theorem sz144 : szO Tryd.prog 144 = some 1 := by kernel_rfl
theorem zz144 : zO Tryd.prog 144 = some (.pointer none) := by kernel_rfl
theorem by144 : byO Tryd.prog 144 = some 8 := by kernel_rfl
theorem ag145 : aggO Tryd.prog 145 = some true := by kernel_rfl
theorem sz145 : szO Tryd.prog 145 = some 6 := by kernel_rfl
theorem zz145 : zO Tryd.prog 145 = some (.agg #[.pointer none, .slice none 0 0, .slice none 0 0, .int .i64 0, .slice none 0 0, .slice none 0 0]) := by kernel_rfl
theorem by145 : byO Tryd.prog 145 = some 112 := by kernel_rfl
theorem fo145_0 : fO Tryd.prog 145 0 = some 0 := by kernel_rfl
theorem fo145_1 : fO Tryd.prog 145 1 = some 1 := by kernel_rfl
theorem fo145_2 : fO Tryd.prog 145 2 = some 2 := by kernel_rfl
theorem fo145_3 : fO Tryd.prog 145 3 = some 3 := by kernel_rfl
theorem fo145_4 : fO Tryd.prog 145 4 = some 5 := by kernel_rfl
theorem ag146 : aggO Tryd.prog 146 = some true := by kernel_rfl
theorem sz146 : szO Tryd.prog 146 = some 6 := by kernel_rfl
theorem zz146 : zO Tryd.prog 146 = some (.agg #[.pointer none, .slice none 0 0, .slice none 0 0, .int .i64 0, .slice none 0 0, .slice none 0 0]) := by kernel_rfl
theorem by146 : byO Tryd.prog 146 = some 112 := by kernel_rfl
theorem fo146_0 : fO Tryd.prog 146 0 = some 0 := by kernel_rfl
theorem fo146_1 : fO Tryd.prog 146 1 = some 1 := by kernel_rfl
theorem fo146_2 : fO Tryd.prog 146 2 = some 2 := by kernel_rfl
theorem fo146_3 : fO Tryd.prog 146 3 = some 3 := by kernel_rfl
theorem fo146_4 : fO Tryd.prog 146 4 = some 5 := by kernel_rfl
theorem ag147 : aggO Tryd.prog 147 = some false := by kernel_rfl
theorem sz147 : szO Tryd.prog 147 = some 1 := by kernel_rfl
theorem zz147 : zO Tryd.prog 147 = some (.nilFunc) := by kernel_rfl
theorem by147 : byO Tryd.prog 147 = some 8 := by kernel_rfl
theorem ag148 : aggO Tryd.prog 148 = some false := by kernel_rfl
theorem sz148 : szO Tryd.prog 148 = some 1 := by kernel_rfl
theorem zz148 : zO Tryd.prog 148 = some (.slice none 0 0) := by kernel_rfl
theorem by148 : byO Tryd.prog 148 = some 24 := by kernel_rfl
theorem ag149 : aggO Tryd.prog 149 = some false := by kernel_rfl
theorem sz149 : szO Tryd.prog 149 = some 1 := by kernel_rfl
theorem zz149 : zO Tryd.prog 149 = some (.nilFunc) := by kernel_rfl
theorem by149 : byO Tryd.prog 149 = some 8 := by kernel_rfl
theorem ag150 : aggO Tryd.prog 150 = some true := by kernel_rfl
theorem sz150 : szO Tryd.prog 150 = some 2 := by kernel_rfl
theorem zz150 : zO Tryd.prog 150 = some (.agg #[.int .u8 0, .string ⟨#[]⟩]) := by kernel_rfl
theorem by150 : byO Tryd.prog 150 = some 24 := by kernel_rfl
theorem fo150_0 : fO Tryd.prog 150 0 = some 0 := by kernel_rfl
theorem fo150_1 : fO Tryd.prog 150 1 = some 1 := by kernel_rfl
theorem ag151 : aggO Tryd.prog 151 = some true := by kernel_rfl
theorem sz151 : szO Tryd.prog 151 = some 2 := by kernel_rfl
theorem zz151 : zO Tryd.prog 151 = some (.agg #[.int .u8 0, .string ⟨#[]⟩]) := by kernel_rfl
theorem by151 : byO Tryd.prog 151 = some 24 := by kernel_rfl
theorem fo151_0 : fO Tryd.prog 151 0 = some 0 := by kernel_rfl
theorem fo151_1 : fO Tryd.prog 151 1 = some 1 := by kernel_rfl
theorem ag152 : aggO Tryd.prog 152 = some false := by kernel_rfl
theorem sz152 : szO Tryd.prog 152 = some 1 := by kernel_rfl
theorem zz152 : zO Tryd.prog 152 = some (.nilFunc) := by kernel_rfl
theorem by152 : byO Tryd.prog 152 = some 8 := by kernel_rfl
theorem ag153 : aggO Tryd.prog 153 = some false := by kernel_rfl
theorem sz153 : szO Tryd.prog 153 = some 1 := by kernel_rfl
theorem zz153 : zO Tryd.prog 153 = some (.nilFunc) := by kernel_rfl
theorem by153 : byO Tryd.prog 153 = some 8 := by kernel_rfl
theorem ag154 : aggO Tryd.prog 154 = some false := by kernel_rfl
theorem sz154 : szO Tryd.prog 154 = some 1 := by kernel_rfl
theorem zz154 : zO Tryd.prog 154 = some (.nilFunc) := by kernel_rfl
theorem by154 : byO Tryd.prog 154 = some 8 := by kernel_rfl
theorem ag155 : aggO Tryd.prog 155 = some false := by kernel_rfl
theorem sz155 : szO Tryd.prog 155 = some 1 := by kernel_rfl
theorem zz155 : zO Tryd.prog 155 = some (.nilFunc) := by kernel_rfl
theorem by155 : byO Tryd.prog 155 = some 8 := by kernel_rfl
theorem ag156 : aggO Tryd.prog 156 = some false := by kernel_rfl
theorem sz156 : szO Tryd.prog 156 = some 1 := by kernel_rfl
theorem zz156 : zO Tryd.prog 156 = some (.nilFunc) := by kernel_rfl
theorem by156 : byO Tryd.prog 156 = some 8 := by kernel_rfl
theorem ag157 : aggO Tryd.prog 157 = some false := by kernel_rfl
theorem sz157 : szO Tryd.prog 157 = some 1 := by kernel_rfl
theorem zz157 : zO Tryd.prog 157 = some (.nilFunc) := by kernel_rfl
theorem by157 : byO Tryd.prog 157 = some 8 := by kernel_rfl
theorem ag158 : aggO Tryd.prog 158 = some false := by kernel_rfl
theorem sz158 : szO Tryd.prog 158 = some 1 := by kernel_rfl
theorem zz158 : zO Tryd.prog 158 = some (.nilFunc) := by kernel_rfl
theorem by158 : byO Tryd.prog 158 = some 8 := by kernel_rfl
theorem ag159 : aggO Tryd.prog 159 = some false := by kernel_rfl
theorem sz159 : szO Tryd.prog 159 = some 1 := by kernel_rfl
theorem zz159 : zO Tryd.prog 159 = some (.nilFunc) := by kernel_rfl
theorem by159 : byO Tryd.prog 159 = some 8 := by kernel_rfl
theorem ag161 : aggO Tryd.prog 161 = some false := by kernel_rfl
theorem sz161 : szO Tryd.prog 161 = some 1 := by kernel_rfl
theorem zz161 : zO Tryd.prog 161 = some (.nilFunc) := by kernel_rfl
theorem by161 : byO Tryd.prog 161 = some 8 := by kernel_rfl
theorem ag162 : aggO Tryd.prog 162 = some false := by kernel_rfl
theorem sz162 : szO Tryd.prog 162 = some 1 := by kernel_rfl
theorem zz162 : zO Tryd.prog 162 = some (.nilFunc) := by kernel_rfl
theorem by162 : byO Tryd.prog 162 = some 8 := by kernel_rfl
theorem ag163 : aggO Tryd.prog 163 = some false := by kernel_rfl
theorem sz163 : szO Tryd.prog 163 = some 1 := by kernel_rfl
theorem zz163 : zO Tryd.prog 163 = some (.nilFunc) := by kernel_rfl
theorem by163 : byO Tryd.prog 163 = some 8 := by kernel_rfl
theorem ag164 : aggO Tryd.prog 164 = some false := by kernel_rfl
theorem sz164 : szO Tryd.prog 164 = some 1 := by kernel_rfl
theorem zz164 : zO Tryd.prog 164 = some (.nilFunc) := by kernel_rfl
theorem by164 : byO Tryd.prog 164 = some 8 := by kernel_rfl
theorem ag165 : aggO Tryd.prog 165 = some false := by kernel_rfl
theorem sz165 : szO Tryd.prog 165 = some 1 := by kernel_rfl
theorem zz165 : zO Tryd.prog 165 = some (.nilFunc) := by kernel_rfl
theorem by165 : byO Tryd.prog 165 = some 8 := by kernel_rfl
theorem ag167 : aggO Tryd.prog 167 = some false := by kernel_rfl
theorem sz167 : szO Tryd.prog 167 = some 1 := by kernel_rfl
theorem zz167 : zO Tryd.prog 167 = some (.nilFunc) := by kernel_rfl
theorem by167 : byO Tryd.prog 167 = some 8 := by kernel_rfl
theorem ag168 : aggO Tryd.prog 168 = some false := by kernel_rfl
theorem sz168 : szO Tryd.prog 168 = some 1 := by kernel_rfl
theorem zz168 : zO Tryd.prog 168 = some (.nilFunc) := by kernel_rfl
theorem by168 : byO Tryd.prog 168 = some 8 := by kernel_rfl
theorem ag170 : aggO Tryd.prog 170 = some false := by kernel_rfl
theorem sz170 : szO Tryd.prog 170 = some 1 := by kernel_rfl
theorem zz170 : zO Tryd.prog 170 = some (.nilFunc) := by kernel_rfl
theorem by170 : byO Tryd.prog 170 = some 8 := by kernel_rfl
theorem ag171 : aggO Tryd.prog 171 = some false := by kernel_rfl
theorem sz171 : szO Tryd.prog 171 = some 1 := by kernel_rfl
theorem zz171 : zO Tryd.prog 171 = some (.nilFunc) := by kernel_rfl
theorem by171 : byO Tryd.prog 171 = some 8 := by kernel_rfl
theorem ag172 : aggO Tryd.prog 172 = some false := by kernel_rfl
theorem sz172 : szO Tryd.prog 172 = some 1 := by kernel_rfl
theorem zz172 : zO Tryd.prog 172 = some (.nilFunc) := by kernel_rfl
theorem by172 : byO Tryd.prog 172 = some 8 := by kernel_rfl
theorem ag173 : aggO Tryd.prog 173 = some false := by kernel_rfl
theorem sz173 : szO Tryd.prog 173 = some 1 := by kernel_rfl
theorem zz173 : zO Tryd.prog 173 = some (.nilFunc) := by kernel_rfl
theorem by173 : byO Tryd.prog 173 = some 8 := by kernel_rfl
theorem ag174 : aggO Tryd.prog 174 = some false := by kernel_rfl
theorem sz174 : szO Tryd.prog 174 = some 1 := by kernel_rfl
theorem zz174 : zO Tryd.prog 174 = some (.slice none 0 0) := by kernel_rfl
theorem by174 : byO Tryd.prog 174 = some 24 := by kernel_rfl
theorem ag175 : aggO Tryd.prog 175 = some false := by kernel_rfl
theorem sz175 : szO Tryd.prog 175 = some 1 := by kernel_rfl
theorem zz175 : zO Tryd.prog 175 = some (.nilFunc) := by kernel_rfl
theorem by175 : byO Tryd.prog 175 = some 8 := by kernel_rfl
theorem ag176 : aggO Tryd.prog 176 = some false := by kernel_rfl
theorem sz176 : szO Tryd.prog 176 = some 1 := by kernel_rfl
theorem zz176 : zO Tryd.prog 176 = some (.slice none 0 0) := by kernel_rfl
theorem by176 : byO Tryd.prog 176 = some 24 := by kernel_rfl
theorem ag177 : aggO Tryd.prog 177 = some false := by kernel_rfl
theorem sz177 : szO Tryd.prog 177 = some 1 := by kernel_rfl
theorem zz177 : zO Tryd.prog 177 = some (.nilFunc) := by kernel_rfl
theorem by177 : byO Tryd.prog 177 = some 8 := by kernel_rfl
theorem ag178 : aggO Tryd.prog 178 = some false := by kernel_rfl
theorem sz178 : szO Tryd.prog 178 = some 1 := by kernel_rfl
theorem zz178 : zO Tryd.prog 178 = some (.nilFunc) := by kernel_rfl
theorem by178 : byO Tryd.prog 178 = some 8 := by kernel_rfl
theorem ag179 : aggO Tryd.prog 179 = some true := by kernel_rfl
theorem sz179 : szO Tryd.prog 179 = some 33 := by kernel_rfl
theorem zz179 : zO Tryd.prog 179 = some (.agg #[.int .i64 0, .int .u8 0, .int .u8 0, .int .u8 0, .int .u8 0, .int .u8 0, .int .u8 0, .int .u8 0, .int .u8 0, .int .u8 0, .int .u8 0, .int .u8 0, .int .u8 0, .int .u8 0, .int .u8 0, .int .u8 0, .int .u8 0, .int .u8 0, .int .u8 0, .int .u8 0, .int .u8 0, .int .u8 0, .int .u8 0, .int .u8 0, .int .u8 0, .int .u8 0, .int .u8 0, .int .u8 0, .int .u8 0, .int .u8 0, .int .u8 0, .int .u8 0, .int .u8 0]) := by kernel_rfl
theorem by179 : byO Tryd.prog 179 = some 40 := by kernel_rfl
theorem fo179_0 : fO Tryd.prog 179 0 = some 0 := by kernel_rfl
theorem fo179_1 : fO Tryd.prog 179 1 = some 1 := by kernel_rfl
theorem ag180 : aggO Tryd.prog 180 = some true := by kernel_rfl
theorem sz180 : szO Tryd.prog 180 = some 33 := by kernel_rfl
theorem zz180 : zO Tryd.prog 180 = some (.agg #[.int .i64 0, .int .u8 0, .int .u8 0, .int .u8 0, .int .u8 0, .int .u8 0, .int .u8 0, .int .u8 0, .int .u8 0, .int .u8 0, .int .u8 0, .int .u8 0, .int .u8 0, .int .u8 0, .int .u8 0, .int .u8 0, .int .u8 0, .int .u8 0, .int .u8 0, .int .u8 0, .int .u8 0, .int .u8 0, .int .u8 0, .int .u8 0, .int .u8 0, .int .u8 0, .int .u8 0, .int .u8 0, .int .u8 0, .int .u8 0, .int .u8 0, .int .u8 0, .int .u8 0]) := by kernel_rfl
theorem by180 : byO Tryd.prog 180 = some 40 := by kernel_rfl
theorem fo180_0 : fO Tryd.prog 180 0 = some 0 := by kernel_rfl
theorem fo180_1 : fO Tryd.prog 180 1 = some 1 := by kernel_rfl
theorem ag181 : aggO Tryd.prog 181 = some false := by kernel_rfl
theorem sz181 : szO Tryd.prog 181 = some 1 := by kernel_rfl
theorem zz181 : zO Tryd.prog 181 = some (.nilFunc) := by kernel_rfl
theorem by181 : byO Tryd.prog 181 = some 8 := by kernel_rfl
theorem ag182 : aggO Tryd.prog 182 = some false := by kernel_rfl
theorem sz182 : szO Tryd.prog 182 = some 1 := by kernel_rfl
theorem zz182 : zO Tryd.prog 182 = some (.nilFunc) := by kernel_rfl
theorem by182 : byO Tryd.prog 182 = some 8 := by kernel_rfl
theorem ag183 : aggO Tryd.prog 183 = some false := by kernel_rfl
theorem sz183 : szO Tryd.prog 183 = some 1 := by kernel_rfl
theorem zz183 : zO Tryd.prog 183 = some (.nilFunc) := by kernel_rfl
theorem by183 : byO Tryd.prog 183 = some 8 := by kernel_rfl
theorem ag184 : aggO Tryd.prog 184 = some false := by kernel_rfl
theorem sz184 : szO Tryd.prog 184 = some 1 := by kernel_rfl
theorem zz184 : zO Tryd.prog 184 = some (.nilFunc) := by kernel_rfl
theorem by184 : byO Tryd.prog 184 = some 8 := by kernel_rfl
theorem ag185 : aggO Tryd.prog 185 = some false := by kernel_rfl
theorem sz185 : szO Tryd.prog 185 = some 1 := by kernel_rfl
theorem zz185 : zO Tryd.prog 185 = some (.nilFunc) := by kernel_rfl
theorem by185 : byO Tryd.prog 185 = some 8 := by kernel_rfl
theorem ag186 : aggO Tryd.prog 186 = some false := by kernel_rfl
theorem sz186 : szO Tryd.prog 186 = some 1 := by kernel_rfl
theorem zz186 : zO Tryd.prog 186 = some (.nilFunc) := by kernel_rfl
theorem by186 : byO Tryd.prog 186 = some 8 := by kernel_rfl
theorem ag187 : aggO Tryd.prog 187 = some false := by kernel_rfl
theorem sz187 : szO Tryd.prog 187 = some 1 := by kernel_rfl
theorem zz187 : zO Tryd.prog 187 = some (.nilFunc) := by kernel_rfl
theorem by187 : byO Tryd.prog 187 = some 8 := by kernel_rfl
theorem ag188 : aggO Tryd.prog 188 = some true := by kernel_rfl
theorem sz188 : szO Tryd.prog 188 = some 36 := by kernel_rfl
theorem zz188 : zO Tryd.prog 188 = some (.agg #[.int .i64 0, .int .u8 0, .int .u8 0, .int .u8 0, .int .u8 0, .int .u8 0, .int .u8 0, .int .u8 0, .int .u8 0, .int .u8 0, .int .u8 0, .int .u8 0, .int .u8 0, .int .u8 0, .int .u8 0, .int .u8 0, .int .u8 0, .int .u8 0, .int .u8 0, .int .u8 0, .int .u8 0, .int .u8 0, .int .u8 0, .int .u8 0, .int .u8 0, .int .u8 0, .int .u8 0, .int .u8 0, .int .u8 0, .int .u8 0, .int .u8 0, .int .u8 0, .int .u8 0, .int .i64 0, .slice none 0 0, .slice none 0 0]) := by kernel_rfl
theorem by188 : byO Tryd.prog 188 = some 96 := by kernel_rfl
theorem fo188_0 : fO Tryd.prog 188 0 = some 0 := by kernel_rfl
theorem fo188_1 : fO Tryd.prog 188 1 = some 33 := by kernel_rfl
theorem fo188_2 : fO Tryd.prog 188 2 = some 35 := by kernel_rfl
theorem ag189 : aggO Tryd.prog 189 = some true := by kernel_rfl
theorem sz189 : szO Tryd.prog 189 = some 36 := by kernel_rfl
theorem zz189 : zO Tryd.prog 189 = some (.agg #[.int .i64 0, .int .u8 0, .int .u8 0, .int .u8 0, .int .u8 0, .int .u8 0, .int .u8 0, .int .u8 0, .int .u8 0, .int .u8 0, .int .u8 0, .int .u8 0, .int .u8 0, .int .u8 0, .int .u8 0, .int .u8 0, .int .u8 0, .int .u8 0, .int .u8 0, .int .u8 0, .int .u8 0, .int .u8 0, .int .u8 0, .int .u8 0, .int .u8 0, .int .u8 0, .int .u8 0, .int .u8 0, .int .u8 0, .int .u8 0, .int .u8 0, .int .u8 0, .int .u8 0, .int .i64 0, .slice none 0 0, .slice none 0 0]) := by kernel_rfl
theorem by189 : byO Tryd.prog 189 = some 96 := by kernel_rfl
theorem fo189_0 : fO Tryd.prog 189 0 = some 0 := by kernel_rfl
theorem fo189_1 : fO Tryd.prog 189 1 = some 33 := by kernel_rfl
theorem fo189_2 : fO Tryd.prog 189 2 = some 35 := by kernel_rfl
theorem ag190 : aggO Tryd.prog 190 = some false := by kernel_rfl
theorem sz190 : szO Tryd.prog 190 = some 1 := by kernel_rfl
theorem zz190 : zO Tryd.prog 190 = some (.nilFunc) := by kernel_rfl
theorem by190 : byO Tryd.prog 190 = some 8 := by kernel_rfl
theorem ag191 : aggO Tryd.prog 191 = some false := by kernel_rfl
theorem sz191 : szO Tryd.prog 191 = some 1 := by kernel_rfl
theorem zz191 : zO Tryd.prog 191 = some (.nilFunc) := by kernel_rfl
theorem by191 : byO Tryd.prog 191 = some 8 := by kernel_rfl
theorem ag192 : aggO Tryd.prog 192 = some false := by kernel_rfl
theorem sz192 : szO Tryd.prog 192 = some 1 := by kernel_rfl
theorem zz192 : zO Tryd.prog 192 = some (.nilFunc) := by kernel_rfl
theorem by192 : byO Tryd.prog 192 = some 8 := by kernel_rfl
theorem ag193 : aggO Tryd.prog 193 = some false := by kernel_rfl
theorem sz193 : szO Tryd.prog 193 = some 1 := by kernel_rfl
theorem zz193 : zO Tryd.prog 193 = some (.nilFunc) := by kernel_rfl
theorem by193 : byO Tryd.prog 193 = some 8 := by kernel_rfl
theorem ag195 : aggO Tryd.prog 195 = some false := by kernel_rfl
theorem sz195 : szO Tryd.prog 195 = some 1 := by kernel_rfl
theorem zz195 : zO Tryd.prog 195 = some (.nilFunc) := by kernel_rfl
theorem by195 : byO Tryd.prog 195 = some 8 := by kernel_rfl
theorem ag197 : aggO Tryd.prog 197 = some false := by kernel_rfl
theorem sz197 : szO Tryd.prog 197 = some 1 := by kernel_rfl
theorem zz197 : zO Tryd.prog 197 = some (.nilFunc) := by kernel_rfl
theorem by197 : byO Tryd.prog 197 = some 8 := by kernel_rfl
theorem ag198 : aggO Tryd.prog 198 = some false := by kernel_rfl
theorem sz198 : szO Tryd.prog 198 = some 1 := by kernel_rfl
theorem zz198 : zO Tryd.prog 198 = some (.nilFunc) := by kernel_rfl
theorem by198 : byO Tryd.prog 198 = some 8 := by kernel_rfl
theorem ag199 : aggO Tryd.prog 199 = some false := by kernel_rfl
theorem sz199 : szO Tryd.prog 199 = some 1 := by kernel_rfl
theorem zz199 : zO Tryd.prog 199 = some (.nilFunc) := by kernel_rfl
theorem by199 : byO Tryd.prog 199 = some 8 := by kernel_rfl
theorem ag200 : aggO Tryd.prog 200 = some false := by kernel_rfl
theorem sz200 : szO Tryd.prog 200 = some 1 := by kernel_rfl
theorem zz200 : zO Tryd.prog 200 = some (.nilFunc) := by kernel_rfl
theorem by200 : byO Tryd.prog 200 = some 8 := by kernel_rfl
theorem ag201 : aggO Tryd.prog 201 = some false := by kernel_rfl
theorem sz201 : szO Tryd.prog 201 = some 1 := by kernel_rfl
theorem zz201 : zO Tryd.prog 201 = some (.nilFunc) := by kernel_rfl
theorem by201 : byO Tryd.prog 201 = some 8 := by kernel_rfl
theorem ag202 : aggO Tryd.prog 202 = some false := by kernel_rfl
theorem sz202 : szO Tryd.prog 202 = some 1 := by kernel_rfl
theorem zz202 : zO Tryd.prog 202 = some (.int .u32 0) := by kernel_rfl
theorem by202 : byO Tryd.prog 202 = some 4 := by kernel_rfl
theorem ag203 : aggO Tryd.prog 203 = some true := by kernel_rfl
theorem sz203 : szO Tryd.prog 203 = some 64 := by kernel_rfl
theorem zz203 : zO Tryd.prog 203 = some (.agg #[.int .u32 0, .int .u32 0, .int .u32 0, .int .u32 0, .int .u32 0, .int .u32 0, .int .u32 0, .int .u32 0, .int .u32 0, .int .u32 0, .int .u32 0, .int .u32 0, .int .u32 0, .int .u32 0, .int .u32 0, .int .u32 0, .int .u32 0, .int .u32 0, .int .u32 0, .int .u32 0, .int .u32 0, .int .u32 0, .int .u32 0, .int .u32 0, .int .u32 0, .int .u32 0, .int .u32 0, .int .u32 0, .int .u32 0, .int .u32 0, .int .u32 0, .int .u32 0, .int .u32 0, .int .u32 0, .int .u32 0, .int .u32 0, .int .u32 0, .int .u32 0, .int .u32 0, .int .u32 0, .int .u32 0, .int .u32 0, .int .u32 0, .int .u32 0, .int .u32 0, .int .u32 0, .int .u32 0, .int .u32 0, .int .u32 0, .int .u32 0, .int .u32 0, .int .u32 0, .int .u32 0, .int .u32 0, .int .u32 0, .int .u32 0, .int .u32 0, .int .u32 0, .int .u32 0, .int .u32 0, .int .u32 0, .int .u32 0, .int .u32 0, .int .u32 0]) := by kernel_rfl
theorem by203 : byO Tryd.prog 203 = some 256 := by kernel_rfl
theorem ag204 : aggO Tryd.prog 204 = some true := by kernel_rfl
theorem sz204 : szO Tryd.prog 204 = some 8 := by kernel_rfl
theorem zz204 : zO Tryd.prog 204 = some (.agg #[.int .u32 0, .int .u32 0, .int .u32 0, .int .u32 0, .int .u32 0, .int .u32 0, .int .u32 0, .int .u32 0]) := by kernel_rfl
theorem by204 : byO Tryd.prog 204 = some 32 := by kernel_rfl
theorem ag205 : aggO Tryd.prog 205 = some false := by kernel_rfl
theorem sz205 : szO Tryd.prog 205 = some 1 := by kernel_rfl
theorem zz205 : zO Tryd.prog 205 = some (.slice none 0 0) := by kernel_rfl
theorem by205 : byO Tryd.prog 205 = some 24 := by kernel_rfl
theorem ag206 : aggO Tryd.prog 206 = some false := by kernel_rfl
theorem sz206 : szO Tryd.prog 206 = some 1 := by kernel_rfl
theorem zz206 : zO Tryd.prog 206 = some (.nilFunc) := by kernel_rfl
theorem by206 : byO Tryd.prog 206 = some 8 := by kernel_rfl
theorem ag207 : aggO Tryd.prog 207 = some false := by kernel_rfl
theorem sz207 : szO Tryd.prog 207 = some 1 := by kernel_rfl
theorem zz207 : zO Tryd.prog 207 = some (.int .u64 0) := by kernel_rfl
theorem by207 : byO Tryd.prog 207 = some 8 := by kernel_rfl
theorem ag208 : aggO Tryd.prog 208 = some false := by kernel_rfl
theorem sz208 : szO Tryd.prog 208 = some 1 := by kernel_rfl
theorem zz208 : zO Tryd.prog 208 = some (.nilFunc) := by kernel_rfl
theorem by208 : byO Tryd.prog 208 = some 8 := by kernel_rfl
theorem ag209 : aggO Tryd.prog 209 = some false := by kernel_rfl
theorem sz209 : szO Tryd.prog 209 = some 1 := by kernel_rfl
theorem zz209 : zO Tryd.prog 209 = some (.nilFunc) := by kernel_rfl
theorem by209 : byO Tryd.prog 209 = some 8 := by kernel_rfl
theorem ag210 : aggO Tryd.prog 210 = some false := by kernel_rfl
theorem sz210 : szO Tryd.prog 210 = some 1 := by kernel_rfl
theorem zz210 : zO Tryd.prog 210 = some (.nilFunc) := by kernel_rfl
theorem by210 : byO Tryd.prog 210 = some 8 := by kernel_rfl
theorem ag211 : aggO Tryd.prog 211 = some false := by kernel_rfl
theorem sz211 : szO Tryd.prog 211 = some 1 := by kernel_rfl
theorem zz211 : zO Tryd.prog 211 = some (.nilFunc) := by kernel_rfl
theorem by211 : byO Tryd.prog 211 = some 8 := by kernel_rfl
theorem ag212 : aggO Tryd.prog 212 = some false := by kernel_rfl
theorem sz212 : szO Tryd.prog 212 = some 1 := by kernel_rfl
theorem zz212 : zO Tryd.prog 212 = some (.int .u64 0) := by kernel_rfl
theorem by212 : byO Tryd.prog 212 = some 8 := by kernel_rfl
theorem ag213 : aggO Tryd.prog 213 = some false := by kernel_rfl
theorem sz213 : szO Tryd.prog 213 = some 1 := by kernel_rfl
theorem zz213 : zO Tryd.prog 213 = some (.nilFunc) := by kernel_rfl
theorem by213 : byO Tryd.prog 213 = some 8 := by kernel_rfl
theorem ag214 : aggO Tryd.prog 214 = some false := by kernel_rfl
theorem sz214 : szO Tryd.prog 214 = some 1 := by kernel_rfl
theorem zz214 : zO Tryd.prog 214 = some (.nilFunc) := by kernel_rfl
theorem by214 : byO Tryd.prog 214 = some 8 := by kernel_rfl
theorem ag215 : aggO Tryd.prog 215 = some false := by kernel_rfl
theorem sz215 : szO Tryd.prog 215 = some 1 := by kernel_rfl
theorem zz215 : zO Tryd.prog 215 = some (.nilFunc) := by kernel_rfl
theorem by215 : byO Tryd.prog 215 = some 8 := by kernel_rfl
theorem ag216 : aggO Tryd.prog 216 = some true := by kernel_rfl
theorem sz216 : szO Tryd.prog 216 = some 256 := by kernel_rfl
theorem zz216 : zO Tryd.prog 216 = some (.agg #[.int .u8 0, .int .u8 0, .int .u8 0, .int .u8 0, .int .u8 0, .int .u8 0, .int .u8 0, .int .u8 0, .int .u8 0, .int .u8 0, .int .u8 0, .int .u8 0, .int .u8 0, .int .u8 0, .int .u8 0, .int .u8 0, .int .u8 0, .int .u8 0, .int .u8 0, .int .u8 0, .int .u8 0, .int .u8 0, .int .u8 0, .int .u8 0, .int .u8 0, .int .u8 0, .int .u8 0, .int .u8 0, .int .u8 0, .int .u8 0, .int .u8 0, .int .u8 0, .int .u8 0, .int .u8 0, .int .u8 0, .int .u8 0, .int .u8 0, .int .u8 0, .int .u8 0, .int .u8 0, .int .u8 0, .int .u8 0, .int .u8 0, .int .u8 0, .int .u8 0, .int .u8 0, .int .u8 0, .int .u8 0, .int .u8 0, .int .u8 0, .int .u8 0, .int .u8 0, .int .u8 0, .int .u8 0, .int .u8 0, .int .u8 0, .int .u8 0, .int .u8 0, .int .u8 0, .int .u8 0, .int .u8 0, .int .u8 0, .int .u8 0, .int .u8 0, .int .u8 0, .int .u8 0, .int .u8 0, .int .u8 0, .int .u8 0, .int .u8 0, .int .u8 0, .int .u8 0, .int .u8 0, .int .u8 0, .int .u8 0, .int .u8 0, .int .u8 0, .int .u8 0, .int .u8 0, .int .u8 0, .int .u8 0, .int .u8 0, .int .u8 0, .int .u8 0, .int .u8 0, .int .u8 0, .int .u8 0, .int .u8 0, .int .u8 0, .int .u8 0, .int .u8 0, .int .u8 0, .int .u8 0, .int .u8 0, .int .u8 0, .int .u8 0, .int .u8 0, .int .u8 0, .int .u8 0, .int .u8 0, .int .u8 0, .int .u8 0, .int .u8 0, .int .u8 0, .int .u8 0, .int .u8 0, .int .u8 0, .int .u8 0, .int .u8 0, .int .u8 0, .int .u8 0, .int .u8 0, .int .u8 0, .int .u8 0, .int .u8 0, .int .u8 0, .int .u8 0, .int .u8 0, .int .u8 0, .int .u8 0, .int .u8 0, .int .u8 0, .int .u8 0, .int .u8 0, .int .u8 0, .int .u8 0, .int .u8 0, .int .u8 0, .int .u8 0, .int .u8 0, .int .u8 0, .int .u8 0, .int .u8 0, .int .u8 0, .int .u8 0, .int .u8 0, .int .u8 0, .int .u8 0, .int .u8 0, .int .u8 0, .int .u8 0, .int .u8 0, .int .u8 0, .int .u8 0, .int .u8 0, .int .u8 0, .int .u8 0, .int .u8 0, .int .u8 0, .int .u8 0, .int .u8 0, .int .u8 0, .int .u8 0, .int .u8 0, .int .u8 0, .int .u8 0, .int .u8 0, .int .u8 0, .int .u8 0, .int .u8 0, .int .u8 0, .int .u8 0, .int .u8 0, .int .u8 0, .int .u8 0, .int .u8 0, .int .u8 0, .int .u8 0, .int .u8 0, .int .u8 0, .int .u8 0, .int .u8 0, .int .u8 0, .int .u8 0, .int .u8 0, .int .u8 0, .int .u8 0, .int .u8 0, .int .u8 0, .int .u8 0, .int .u8 0, .int .u8 0, .int .u8 0, .int .u8 0, .int .u8 0, .int .u8 0, .int .u8 0, .int .u8 0, .int .u8 0, .int .u8 0, .int .u8 0, .int .u8 0, .int .u8 0, .int .u8 0, .int .u8 0, .int .u8 0, .int .u8 0, .int .u8 0, .int .u8 0, .int .u8 0, .int .u8 0, .int .u8 0, .int .u8 0, .int .u8 0, .int .u8 0, .int .u8 0, .int .u8 0, .int .u8 0, .int .u8 0, .int .u8 0, .int .u8 0, .int .u8 0, .int .u8 0, .int .u8 0, .int .u8 0, .int .u8 0, .int .u8 0, .int .u8 0, .int .u8 0, .int .u8 0, .int .u8 0, .int .u8 0, .int .u8 0, .int .u8 0, .int .u8 0, .int .u8 0, .int .u8 0, .int .u8 0, .int .u8 0, .int .u8 0, .int .u8 0, .int .u8 0, .int .u8 0, .int .u8 0, .int .u8 0, .int .u8 0, .int .u8 0, .int .u8 0, .int .u8 0, .int .u8 0, .int .u8 0, .int .u8 0, .int .u8 0, .int .u8 0, .int .u8 0, .int .u8 0, .int .u8 0, .int .u8 0, .int .u8 0, .int .u8 0, .int .u8 0, .int .u8 0, .int .u8 0, .int .u8 0, .int .u8 0, .int .u8 0]) := by kernel_rfl
theorem by216 : byO Tryd.prog 216 = some 256 := by kernel_rfl
theorem ag217 : aggO Tryd.prog 217 = some true := by kernel_rfl
theorem sz217 : szO Tryd.prog 217 = some 258 := by kernel_rfl
theorem zz217 : zO Tryd.prog 217 = some (.agg #[.bool false, .string ⟨#[]⟩, .int .u8 0, .int .u8 0, .int .u8 0, .int .u8 0, .int .u8 0, .int .u8 0, .int .u8 0, .int .u8 0, .int .u8 0, .int .u8 0, .int .u8 0, .int .u8 0, .int .u8 0, .int .u8 0, .int .u8 0, .int .u8 0, .int .u8 0, .int .u8 0, .int .u8 0, .int .u8 0, .int .u8 0, .int .u8 0, .int .u8 0, .int .u8 0, .int .u8 0, .int .u8 0, .int .u8 0, .int .u8 0, .int .u8 0, .int .u8 0, .int .u8 0, .int .u8 0, .int .u8 0, .int .u8 0, .int .u8 0, .int .u8 0, .int .u8 0, .int .u8 0, .int .u8 0, .int .u8 0, .int .u8 0, .int .u8 0, .int .u8 0, .int .u8 0, .int .u8 0, .int .u8 0, .int .u8 0, .int .u8 0, .int .u8 0, .int .u8 0, .int .u8 0, .int .u8 0, .int .u8 0, .int .u8 0, .int .u8 0, .int .u8 0, .int .u8 0, .int .u8 0, .int .u8 0, .int .u8 0, .int .u8 0, .int .u8 0, .int .u8 0, .int .u8 0, .int .u8 0, .int .u8 0, .int .u8 0, .int .u8 0, .int .u8 0, .int .u8 0, .int .u8 0, .int .u8 0, .int .u8 0, .int .u8 0, .int .u8 0, .int .u8 0, .int .u8 0, .int .u8 0, .int .u8 0, .int .u8 0, .int .u8 0, .int .u8 0, .int .u8 0, .int .u8 0, .int .u8 0, .int .u8 0, .int .u8 0, .int .u8 0, .int .u8 0, .int .u8 0, .int .u8 0, .int .u8 0, .int .u8 0, .int .u8 0, .int .u8 0, .int .u8 0, .int .u8 0, .int .u8 0, .int .u8 0, .int .u8 0, .int .u8 0, .int .u8 0, .int .u8 0, .int .u8 0, .int .u8 0, .int .u8 0, .int .u8 0, .int .u8 0, .int .u8 0, .int .u8 0, .int .u8 0, .int .u8 0, .int .u8 0, .int .u8 0, .int .u8 0, .int .u8 0, .int .u8 0, .int .u8 0, .int .u8 0, .int .u8 0, .int .u8 0, .int .u8 0, .int .u8 0, .int .u8 0, .int .u8 0, .int .u8 0, .int .u8 0, .int .u8 0, .int .u8 0, .int .u8 0, .int .u8 0, .int .u8 0, .int .u8 0, .int .u8 0, .int .u8 0, .int .u8 0, .int .u8 0, .int .u8 0, .int .u8 0, .int .u8 0, .int .u8 0, .int .u8 0, .int .u8 0, .int .u8 0, .int .u8 0, .int .u8 0, .int .u8 0, .int .u8 0, .int .u8 0, .int .u8 0, .int .u8 0, .int .u8 0, .int .u8 0, .int .u8 0, .int .u8 0, .int .u8 0, .int .u8 0, .int .u8 0, .int .u8 0, .int .u8 0, .int .u8 0, .int .u8 0, .int .u8 0, .int .u8 0, .int .u8 0, .int .u8 0, .int .u8 0, .int .u8 0, .int .u8 0, .int .u8 0, .int .u8 0, .int .u8 0, .int .u8 0, .int .u8 0, .int .u8 0, .int .u8 0, .int .u8 0, .int .u8 0, .int .u8 0, .int .u8 0, .int .u8 0, .int .u8 0, .int .u8 0, .int .u8 0, .int .u8 0, .int .u8 0, .int .u8 0, .int .u8 0, .int .u8 0, .int .u8 0, .int .u8 0, .int .u8 0, .int .u8 0, .int .u8 0, .int .u8 0, .int .u8 0, .int .u8 0, .int .u8 0, .int .u8 0, .int .u8 0, .int .u8 0, .int .u8 0, .int .u8 0, .int .u8 0, .int .u8 0, .int .u8 0, .int .u8 0, .int .u8 0, .int .u8 0, .int .u8 0, .int .u8 0, .int .u8 0, .int .u8 0, .int .u8 0, .int .u8 0, .int .u8 0, .int .u8 0, .int .u8 0, .int .u8 0, .int .u8 0, .int .u8 0, .int .u8 0, .int .u8 0, .int .u8 0, .int .u8 0, .int .u8 0, .int .u8 0, .int .u8 0, .int .u8 0, .int .u8 0, .int .u8 0, .int .u8 0, .int .u8 0, .int .u8 0, .int .u8 0, .int .u8 0, .int .u8 0, .int .u8 0, .int .u8 0, .int .u8 0, .int .u8 0, .int .u8 0, .int .u8 0, .int .u8 0, .int .u8 0, .int .u8 0, .int .u8 0, .int .u8 0, .int .u8 0, .int .u8 0, .int .u8 0, .int .u8 0, .int .u8 0, .int .u8 0, .int .u8 0, .int .u8 0]) := by kernel_rfl
theorem by217 : byO Tryd.prog 217 = some 280 := by kernel_rfl
theorem fo217_0 : fO Tryd.prog 217 0 = some 0 := by kernel_rfl
theorem fo217_1 : fO Tryd.prog 217 1 = some 1 := by kernel_rfl
theorem fo217_2 : fO Tryd.prog 217 2 = some 2 := by kernel_rfl
theorem ag218 : aggO Tryd.prog 218 = some true := by kernel_rfl
theorem sz218 : szO Tryd.prog 218 = some 258 := by kernel_rfl
theorem zz218 : zO Tryd.prog 218 = some (.agg #[.bool false, .string ⟨#[]⟩, .int .u8 0, .int .u8 0, .int .u8 0, .int .u8 0, .int .u8 0, .int .u8 0, .int .u8 0, .int .u8 0, .int .u8 0, .int .u8 0, .int .u8 0, .int .u8 0, .int .u8 0, .int .u8 0, .int .u8 0, .int .u8 0, .int .u8 0, .int .u8 0, .int .u8 0, .int .u8 0, .int .u8 0, .int .u8 0, .int .u8 0, .int .u8 0, .int .u8 0, .int .u8 0, .int .u8 0, .int .u8 0, .int .u8 0, .int .u8 0, .int .u8 0, .int .u8 0, .int .u8 0, .int .u8 0, .int .u8 0, .int .u8 0, .int .u8 0, .int .u8 0, .int .u8 0, .int .u8 0, .int .u8 0, .int .u8 0, .int .u8 0, .int .u8 0, .int .u8 0, .int .u8 0, .int .u8 0, .int .u8 0, .int .u8 0, .int .u8 0, .int .u8 0, .int .u8 0, .int .u8 0, .int .u8 0, .int .u8 0, .int .u8 0, .int .u8 0, .int .u8 0, .int .u8 0, .int .u8 0, .int .u8 0, .int .u8 0, .int .u8 0, .int .u8 0, .int .u8 0, .int .u8 0, .int .u8 0, .int .u8 0, .int .u8 0, .int .u8 0, .int .u8 0, .int .u8 0, .int .u8 0, .int .u8 0, .int .u8 0, .int .u8 0, .int .u8 0, .int .u8 0, .int .u8 0, .int .u8 0, .int .u8 0, .int .u8 0, .int .u8 0, .int .u8 0, .int .u8 0, .int .u8 0, .int .u8 0, .int .u8 0, .int .u8 0, .int .u8 0, .int .u8 0, .int .u8 0, .int .u8 0, .int .u8 0, .int .u8 0, .int .u8 0, .int .u8 0, .int .u8 0, .int .u8 0, .int .u8 0, .int .u8 0, .int .u8 0, .int .u8 0, .int .u8 0, .int .u8 0, .int .u8 0, .int .u8 0, .int .u8 0, .int .u8 0, .int .u8 0, .int .u8 0, .int .u8 0, .int .u8 0, .int .u8 0, .int .u8 0, .int .u8 0, .int .u8 0, .int .u8 0, .int .u8 0, .int .u8 0, .int .u8 0, .int .u8 0, .int .u8 0, .int .u8 0, .int .u8 0, .int .u8 0, .int .u8 0, .int .u8 0, .int .u8 0, .int .u8 0, .int .u8 0, .int .u8 0, .int .u8 0, .int .u8 0, .int .u8 0, .int .u8 0, .int .u8 0, .int .u8 0, .int .u8 0, .int .u8 0, .int .u8 0, .int .u8 0, .int .u8 0, .int .u8 0, .int .u8 0, .int .u8 0, .int .u8 0, .int .u8 0, .int .u8 0, .int .u8 0, .int .u8 0, .int .u8 0, .int .u8 0, .int .u8 0, .int .u8 0, .int .u8 0, .int .u8 0, .int .u8 0, .int .u8 0, .int .u8 0, .int .u8 0, .int .u8 0, .int .u8 0, .int .u8 0, .int .u8 0, .int .u8 0, .int .u8 0, .int .u8 0, .int .u8 0, .int .u8 0, .int .u8 0, .int .u8 0, .int .u8 0, .int .u8 0, .int .u8 0, .int .u8 0, .int .u8 0, .int .u8 0, .int .u8 0, .int .u8 0, .int .u8 0, .int .u8 0, .int .u8 0, .int .u8 0, .int .u8 0, .int .u8 0, .int .u8 0, .int .u8 0, .int .u8 0, .int .u8 0, .int .u8 0, .int .u8 0, .int .u8 0, .int .u8 0, .int .u8 0, .int .u8 0, .int .u8 0, .int .u8 0, .int .u8 0, .int .u8 0, .int .u8 0, .int .u8 0, .int .u8 0, .int .u8 0, .int .u8 0, .int .u8 0, .int .u8 0, .int .u8 0, .int .u8 0, .int .u8 0, .int .u8 0, .int .u8 0, .int .u8 0, .int .u8 0, .int .u8 0, .int .u8 0, .int .u8 0, .int .u8 0, .int .u8 0, .int .u8 0, .int .u8 0, .int .u8 0, .int .u8 0, .int .u8 0, .int .u8 0, .int .u8 0, .int .u8 0, .int .u8 0, .int .u8 0, .int .u8 0, .int .u8 0, .int .u8 0, .int .u8 0, .int .u8 0, .int .u8 0, .int .u8 0, .int .u8 0, .int .u8 0, .int .u8 0, .int .u8 0, .int .u8 0, .int .u8 0, .int .u8 0, .int .u8 0, .int .u8 0, .int .u8 0, .int .u8 0, .int .u8 0, .int .u8 0, .int .u8 0, .int .u8 0, .int .u8 0, .int .u8 0, .int .u8 0, .int .u8 0, .int .u8 0]) := by kernel_rfl
theorem by218 : byO Tryd.prog 218 = some 280 := by kernel_rfl
theorem fo218_0 : fO Tryd.prog 218 0 = some 0 := by kernel_rfl
theorem fo218_1 : fO Tryd.prog 218 1 = some 1 := by kernel_rfl
theorem fo218_2 : fO Tryd.prog 218 2 = some 2 := by kernel_rfl
theorem ag219 : aggO Tryd.prog 219 = some false := by kernel_rfl
theorem sz219 : szO Tryd.prog 219 = some 1 := by kernel_rfl
theorem zz219 : zO Tryd.prog 219 = some (.nilFunc) := by kernel_rfl
theorem by219 : byO Tryd.prog 219 = some 8 := by kernel_rfl
theorem ag220 : aggO Tryd.prog 220 = some false := by kernel_rfl
theorem sz220 : szO Tryd.prog 220 = some 1 := by kernel_rfl
theorem zz220 : zO Tryd.prog 220 = some (.nilFunc) := by kernel_rfl
theorem by220 : byO Tryd.prog 220 = some 8 := by kernel_rfl
theorem ag221 : aggO Tryd.prog 221 = some false := by kernel_rfl
theorem sz221 : szO Tryd.prog 221 = some 1 := by kernel_rfl
theorem zz221 : zO Tryd.prog 221 = some (.nilFunc) := by kernel_rfl
theorem by221 : byO Tryd.prog 221 = some 8 := by kernel_rfl
theorem ag222 : aggO Tryd.prog 222 = some false := by kernel_rfl
theorem sz222 : szO Tryd.prog 222 = some 1 := by kernel_rfl
theorem zz222 : zO Tryd.prog 222 = some (.nilFunc) := by kernel_rfl
theorem by222 : byO Tryd.prog 222 = some 8 := by kernel_rfl
theorem ag223 : aggO Tryd.prog 223 = some false := by kernel_rfl
theorem sz223 : szO Tryd.prog 223 = some 1 := by kernel_rfl
theorem zz223 : zO Tryd.prog 223 = some (.nilFunc) := by kernel_rfl
theorem by223 : byO Tryd.prog 223 = some 8 := by kernel_rfl
theorem ag224 : aggO Tryd.prog 224 = some false := by kernel_rfl
theorem sz224 : szO Tryd.prog 224 = some 1 := by kernel_rfl
theorem zz224 : zO Tryd.prog 224 = some (.pointer none) := by kernel_rfl
theorem by224 : byO Tryd.prog 224 = some 8 := by kernel_rfl
theorem ag225 : aggO Tryd.prog 225 = some false := by kernel_rfl
theorem sz225 : szO Tryd.prog 225 = some 1 := by kernel_rfl
theorem zz225 : zO Tryd.prog 225 = some (.nilFunc) := by kernel_rfl
theorem by225 : byO Tryd.prog 225 = some 8 := by kernel_rfl
theorem ag226 : aggO Tryd.prog 226 = some false := by kernel_rfl
theorem sz226 : szO Tryd.prog 226 = some 1 := by kernel_rfl
theorem zz226 : zO Tryd.prog 226 = some (.slice none 0 0) := by kernel_rfl
theorem by226 : byO Tryd.prog 226 = some 24 := by kernel_rfl
theorem ag227 : aggO Tryd.prog 227 = some false := by kernel_rfl
theorem sz227 : szO Tryd.prog 227 = some 1 := by kernel_rfl
theorem zz227 : zO Tryd.prog 227 = some (.nilFunc) := by kernel_rfl
theorem by227 : byO Tryd.prog 227 = some 8 := by kernel_rfl
theorem ag228 : aggO Tryd.prog 228 = some false := by kernel_rfl
theorem sz228 : szO Tryd.prog 228 = some 1 := by kernel_rfl
theorem zz228 : zO Tryd.prog 228 = some (.pointer none) := by kernel_rfl
theorem by228 : byO Tryd.prog 228 = some 8 := by kernel_rfl
theorem ag229 : aggO Tryd.prog 229 = some false := by kernel_rfl
theorem sz229 : szO Tryd.prog 229 = some 1 := by kernel_rfl
theorem zz229 : zO Tryd.prog 229 = some (.pointer none) := by kernel_rfl
theorem by229 : byO Tryd.prog 229 = some 8 := by kernel_rfl
theorem ag230 : aggO Tryd.prog 230 = some false := by kernel_rfl
theorem sz230 : szO Tryd.prog 230 = some 1 := by kernel_rfl
theorem zz230 : zO Tryd.prog 230 = some (.nilFunc) := by kernel_rfl
theorem by230 : byO Tryd.prog 230 = some 8 := by kernel_rfl
theorem ag232 : aggO Tryd.prog 232 = some false := by kernel_rfl
theorem sz232 : szO Tryd.prog 232 = some 1 := by kernel_rfl
theorem zz232 : zO Tryd.prog 232 = some (.nilFunc) := by kernel_rfl
theorem by232 : byO Tryd.prog 232 = some 8 := by kernel_rfl
theorem ag233 : aggO Tryd.prog 233 = some false := by kernel_rfl
theorem sz233 : szO Tryd.prog 233 = some 1 := by kernel_rfl
theorem zz233 : zO Tryd.prog 233 = some (.nilFunc) := by kernel_rfl
theorem by233 : byO Tryd.prog 233 = some 8 := by kernel_rfl
theorem ag234 : aggO Tryd.prog 234 = some false := by kernel_rfl
theorem sz234 : szO Tryd.prog 234 = some 1 := by kernel_rfl
theorem zz234 : zO Tryd.prog 234 = some (.nilFunc) := by kernel_rfl
theorem by234 : byO Tryd.prog 234 = some 8 := by kernel_rfl
theorem ag235 : aggO Tryd.prog 235 = some false := by kernel_rfl
theorem sz235 : szO Tryd.prog 235 = some 1 := by kernel_rfl
theorem zz235 : zO Tryd.prog 235 = some (.nilFunc) := by kernel_rfl
theorem by235 : byO Tryd.prog 235 = some 8 := by kernel_rfl
theorem ag236 : aggO Tryd.prog 236 = some false := by kernel_rfl
theorem sz236 : szO Tryd.prog 236 = some 1 := by kernel_rfl
theorem zz236 : zO Tryd.prog 236 = some (.nilFunc) := by kernel_rfl
theorem by236 : byO Tryd.prog 236 = some 8 := by kernel_rfl
theorem ag237 : aggO Tryd.prog 237 = some false := by kernel_rfl
theorem sz237 : szO Tryd.prog 237 = some 1 := by kernel_rfl
theorem zz237 : zO Tryd.prog 237 = some (.nilFunc) := by kernel_rfl
theorem by237 : byO Tryd.prog 237 = some 8 := by kernel_rfl
theorem ag238 : aggO Tryd.prog 238 = some false := by kernel_rfl
theorem sz238 : szO Tryd.prog 238 = some 1 := by kernel_rfl
theorem zz238 : zO Tryd.prog 238 = some (.nilFunc) := by kernel_rfl
theorem by238 : byO Tryd.prog 238 = some 8 := by kernel_rfl
theorem ag239 : aggO Tryd.prog 239 = some false := by kernel_rfl
theorem sz239 : szO Tryd.prog 239 = some 1 := by kernel_rfl
theorem zz239 : zO Tryd.prog 239 = some (.nilFunc) := by kernel_rfl
theorem by239 : byO Tryd.prog 239 = some 8 := by kernel_rfl
theorem ag240 : aggO Tryd.prog 240 = some false := by kernel_rfl
theorem sz240 : szO Tryd.prog 240 = some 1 := by kernel_rfl
theorem zz240 : zO Tryd.prog 240 = some (.nilFunc) := by kernel_rfl
theorem by240 : byO Tryd.prog 240 = some 8 := by kernel_rfl
theorem ag241 : aggO Tryd.prog 241 = some false := by kernel_rfl
theorem sz241 : szO Tryd.prog 241 = some 1 := by kernel_rfl
theorem zz241 : zO Tryd.prog 241 = some (.nilFunc) := by kernel_rfl
theorem by241 : byO Tryd.prog 241 = some 8 := by kernel_rfl
theorem ag242 : aggO Tryd.prog 242 = some false := by kernel_rfl
theorem sz242 : szO Tryd.prog 242 = some 1 := by kernel_rfl
theorem zz242 : zO Tryd.prog 242 = some (.nilFunc) := by kernel_rfl
theorem by242 : byO Tryd.prog 242 = some 8 := by kernel_rfl
theorem ag243 : aggO Tryd.prog 243 = some false := by kernel_rfl
theorem sz243 : szO Tryd.prog 243 = some 1 := by kernel_rfl
theorem zz243 : zO Tryd.prog 243 = some (.nilFunc) := by kernel_rfl
theorem by243 : byO Tryd.prog 243 = some 8 := by kernel_rfl
theorem ag244 : aggO Tryd.prog 244 = some false := by kernel_rfl
theorem sz244 : szO Tryd.prog 244 = some 1 := by kernel_rfl
theorem zz244 : zO Tryd.prog 244 = some (.nilFunc) := by kernel_rfl
theorem by244 : byO Tryd.prog 244 = some 8 := by kernel_rfl
theorem ag245 : aggO Tryd.prog 245 = some false := by kernel_rfl
theorem sz245 : szO Tryd.prog 245 = some 1 := by kernel_rfl
theorem zz245 : zO Tryd.prog 245 = some (.pointer none) := by kernel_rfl
theorem by245 : byO Tryd.prog 245 = some 8 := by kernel_rfl
theorem ag246 : aggO Tryd.prog 246 = some true := by kernel_rfl
theorem sz246 : szO Tryd.prog 246 = some 2 := by kernel_rfl
theorem zz246 : zO Tryd.prog 246 = some (.agg #[.pointer none, .slice none 0 0]) := by kernel_rfl
theorem by246 : byO Tryd.prog 246 = some 32 := by kernel_rfl
theorem fo246_0 : fO Tryd.prog 246 0 = some 0 := by kernel_rfl
theorem fo246_1 : fO Tryd.prog 246 1 = some 1 := by kernel_rfl
theorem ag247 : aggO Tryd.prog 247 = some true := by kernel_rfl
theorem sz247 : szO Tryd.prog 247 = some 2 := by kernel_rfl
theorem zz247 : zO Tryd.prog 247 = some (.agg #[.pointer none, .slice none 0 0]) := by kernel_rfl
theorem by247 : byO Tryd.prog 247 = some 32 := by kernel_rfl
theorem fo247_0 : fO Tryd.prog 247 0 = some 0 := by kernel_rfl
theorem fo247_1 : fO Tryd.prog 247 1 = some 1 := by kernel_rfl
theorem ag250 : aggO Tryd.prog 250 = some false := by kernel_rfl
theorem sz250 : szO Tryd.prog 250 = some 1 := by kernel_rfl
theorem zz250 : zO Tryd.prog 250 = some (.nilFunc) := by kernel_rfl
theorem by250 : byO Tryd.prog 250 = some 8 := by kernel_rfl
theorem ag252 : aggO Tryd.prog 252 = some false := by kernel_rfl
theorem sz252 : szO Tryd.prog 252 = some 1 := by kernel_rfl
theorem zz252 : zO Tryd.prog 252 = some (.nilFunc) := by kernel_rfl
theorem by252 : byO Tryd.prog 252 = some 8 := by kernel_rfl
theorem ag253 : aggO Tryd.prog 253 = some false := by kernel_rfl
theorem sz253 : szO Tryd.prog 253 = some 1 := by kernel_rfl
theorem zz253 : zO Tryd.prog 253 = some (.nilFunc) := by kernel_rfl
theorem by253 : byO Tryd.prog 253 = some 8 := by kernel_rfl
theorem ag254 : aggO Tryd.prog 254 = some false := by kernel_rfl
theorem sz254 : szO Tryd.prog 254 = some 1 := by kernel_rfl
theorem zz254 : zO Tryd.prog 254 = some (.nilFunc) := by kernel_rfl
theorem by254 : byO Tryd.prog 254 = some 8 := by kernel_rfl
theorem ag255 : aggO Tryd.prog 255 = some false := by kernel_rfl
theorem sz255 : szO Tryd.prog 255 = some 1 := by kernel_rfl
theorem zz255 : zO Tryd.prog 255 = some (.nilFunc) := by kernel_rfl
theorem by255 : byO Tryd.prog 255 = some 8 := by kernel_rfl
theorem ag256 : aggO Tryd.prog 256 = some false := by kernel_rfl
theorem sz256 : szO Tryd.prog 256 = some 1 := by kernel_rfl
theorem zz256 : zO Tryd.prog 256 = some (.nilFunc) := by kernel_rfl
theorem by256 : byO Tryd.prog 256 = some 8 := by kernel_rfl
theorem ag257 : aggO Tryd.prog 257 = some false := by kernel_rfl
theorem sz257 : szO Tryd.prog 257 = some 1 := by kernel_rfl
theorem zz257 : zO Tryd.prog 257 = some (.nilFunc) := by kernel_rfl
theorem by257 : byO Tryd.prog 257 = some 8 := by kernel_rfl
theorem ag258 : aggO Tryd.prog 258 = some true := by kernel_rfl
theorem sz258 : szO Tryd.prog 258 = some 2 := by kernel_rfl
theorem zz258 : zO Tryd.prog 258 = some (.agg #[.string ⟨#[]⟩, .bool false]) := by kernel_rfl
theorem by258 : byO Tryd.prog 258 = some 24 := by kernel_rfl
theorem fo258_0 : fO Tryd.prog 258 0 = some 0 := by kernel_rfl
theorem fo258_1 : fO Tryd.prog 258 1 = some 1 := by kernel_rfl
theorem ag259 : aggO Tryd.prog 259 = some true := by kernel_rfl
theorem sz259 : szO Tryd.prog 259 = some 2 := by kernel_rfl
theorem zz259 : zO Tryd.prog 259 = some (.agg #[.string ⟨#[]⟩, .bool false]) := by kernel_rfl
theorem by259 : byO Tryd.prog 259 = some 24 := by kernel_rfl
theorem fo259_0 : fO Tryd.prog 259 0 = some 0 := by kernel_rfl
theorem fo259_1 : fO Tryd.prog 259 1 = some 1 := by kernel_rfl
theorem ag261 : aggO Tryd.prog 261 = some false := by kernel_rfl
theorem sz261 : szO Tryd.prog 261 = some 1 := by kernel_rfl
theorem zz261 : zO Tryd.prog 261 = some (.nilFunc) := by kernel_rfl
theorem by261 : byO Tryd.prog 261 = some 8 := by kernel_rfl
theorem ag262 : aggO Tryd.prog 262 = some false := by kernel_rfl
theorem sz262 : szO Tryd.prog 262 = some 1 := by kernel_rfl
theorem zz262 : zO Tryd.prog 262 = some (.nilFunc) := by kernel_rfl
theorem by262 : byO Tryd.prog 262 = some 8 := by kernel_rfl
theorem ag264 : aggO Tryd.prog 264 = some false := by kernel_rfl
theorem sz264 : szO Tryd.prog 264 = some 1 := by kernel_rfl
theorem zz264 : zO Tryd.prog 264 = some (.nilFunc) := by kernel_rfl
theorem by264 : byO Tryd.prog 264 = some 8 := by kernel_rfl
theorem ag266 : aggO Tryd.prog 266 = some false := by kernel_rfl
theorem sz266 : szO Tryd.prog 266 = some 1 := by kernel_rfl
theorem zz266 : zO Tryd.prog 266 = some (.nilFunc) := by kernel_rfl
theorem by266 : byO Tryd.prog 266 = some 8 := by kernel_rfl
theorem ag267 : aggO Tryd.prog 267 = some false := by kernel_rfl
theorem sz267 : szO Tryd.prog 267 = some 1 := by kernel_rfl
theorem zz267 : zO Tryd.prog 267 = some (.nilFunc) := by kernel_rfl
theorem by267 : byO Tryd.prog 267 = some 8 := by kernel_rfl
theorem ag268 : aggO Tryd.prog 268 = some false := by kernel_rfl
theorem sz268 : szO Tryd.prog 268 = some 1 := by kernel_rfl
theorem zz268 : zO Tryd.prog 268 = some (.nilFunc) := by kernel_rfl
theorem by268 : byO Tryd.prog 268 = some 8 := by kernel_rfl
theorem ag269 : aggO Tryd.prog 269 = some false := by kernel_rfl
theorem sz269 : szO Tryd.prog 269 = some 1 := by kernel_rfl
theorem zz269 : zO Tryd.prog 269 = some (.nilFunc) := by kernel_rfl
theorem by269 : byO Tryd.prog 269 = some 8 := by kernel_rfl
theorem ag270 : aggO Tryd.prog 270 = some false := by kernel_rfl
theorem sz270 : szO Tryd.prog 270 = some 1 := by kernel_rfl
theorem zz270 : zO Tryd.prog 270 = some (.pointer none) := by kernel_rfl
theorem by270 : byO Tryd.prog 270 = some 8 := by kernel_rfl
theorem ag271 : aggO Tryd.prog 271 = some false := by kernel_rfl
theorem sz271 : szO Tryd.prog 271 = some 1 := by kernel_rfl
theorem zz271 : zO Tryd.prog 271 = some (.nilFunc) := by kernel_rfl
theorem by271 : byO Tryd.prog 271 = some 8 := by kernel_rfl
theorem ag273 : aggO Tryd.prog 273 = some false := by kernel_rfl
theorem sz273 : szO Tryd.prog 273 = some 1 := by kernel_rfl
theorem zz273 : zO Tryd.prog 273 = some (.nilFunc) := by kernel_rfl
theorem by273 : byO Tryd.prog 273 = some 8 := by kernel_rfl
theorem ag275 : aggO Tryd.prog 275 = some false := by kernel_rfl
theorem sz275 : szO Tryd.prog 275 = some 1 := by kernel_rfl
theorem zz275 : zO Tryd.prog 275 = some (.nilFunc) := by kernel_rfl
theorem by275 : byO Tryd.prog 275 = some 8 := by kernel_rfl
theorem ag277 : aggO Tryd.prog 277 = some false := by kernel_rfl
theorem sz277 : szO Tryd.prog 277 = some 1 := by kernel_rfl
theorem zz277 : zO Tryd.prog 277 = some (.nilFunc) := by kernel_rfl
theorem by277 : byO Tryd.prog 277 = some 8 := by kernel_rfl
theorem ag278 : aggO Tryd.prog 278 = some false := by kernel_rfl
theorem sz278 : szO Tryd.prog 278 = some 1 := by kernel_rfl
theorem zz278 : zO Tryd.prog 278 = some (.nilFunc) := by kernel_rfl
theorem by278 : byO Tryd.prog 278 = some 8 := by kernel_rfl
theorem ag286 : aggO Tryd.prog 286 = some false := by kernel_rfl
theorem sz286 : szO Tryd.prog 286 = some 1 := by kernel_rfl
theorem zz286 : zO Tryd.prog 286 = some (.nilFunc) := by kernel_rfl
theorem by286 : byO Tryd.prog 286 = some 8 := by kernel_rfl
theorem ag289 : aggO Tryd.prog 289 = some true := by kernel_rfl
theorem sz289 : szO Tryd.prog 289 = some 11 := by kernel_rfl
theorem zz289 : zO Tryd.prog 289 = some (.agg #[.int .u64 0, .int .u64 0, .int .u32 0, .int .u8 0, .int .u8 0, .int .u8 0, .int .u8 0, .nilFunc, .pointer none, .int .i32 0, .int .i32 0]) := by kernel_rfl
theorem by289 : byO Tryd.prog 289 = some 48 := by kernel_rfl
theorem fo289_0 : fO Tryd.prog 289 0 = some 0 := by kernel_rfl
theorem fo289_1 : fO Tryd.prog 289 1 = some 1 := by kernel_rfl
theorem fo289_2 : fO Tryd.prog 289 2 = some 2 := by kernel_rfl
theorem fo289_3 : fO Tryd.prog 289 3 = some 3 := by kernel_rfl
theorem fo289_4 : fO Tryd.prog 289 4 = some 4 := by kernel_rfl
theorem fo289_5 : fO Tryd.prog 289 5 = some 5 := by kernel_rfl
theorem fo289_6 : fO Tryd.prog 289 6 = some 6 := by kernel_rfl
theorem fo289_7 : fO Tryd.prog 289 7 = some 7 := by kernel_rfl
theorem fo289_8 : fO Tryd.prog 289 8 = some 8 := by kernel_rfl
theorem fo289_9 : fO Tryd.prog 289 9 = some 9 := by kernel_rfl
theorem fo289_10 : fO Tryd.prog 289 10 = some 10 := by kernel_rfl
end Go.Proofs.YtjkfeonbioccmaaDoor.Tb
